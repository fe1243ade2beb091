import Derived.Test.YtijepfjfmpmfnaaV50
import Derived.Test.YtijepfjfmpmfnaaTgHeld3
/- The server of addresses. -/
namespace Go.Proofs.Ytijepfjfmpmfnaa
open Go.RowKit Go.Tg Go.Maps

/-- Blocks that were laid since. -/
structure Lay (W Wc : World) (l : List (Nat × Obj)) : Prop where
  bl : Below W.heap.size W Wc
  get : ∀ p ∈ l, W.heap.size ≤ p.1 ∧ Wc.heap[p.1]? = some p.2
theorem Lay.go {W Wc W' : World} {l : List (Nat × Obj)} (h : Lay W Wc l) (hb : Below Wc.heap.size Wc W') : Lay W W' l :=
  ⟨h.bl.trans (hb.mono h.bl.size), fun p hp => ⟨(h.get p hp).1, (hb.block _ (Array.getElem?_eq_some_iff.1 (h.get p hp).2).1).trans (h.get p hp).2⟩⟩
theorem Lay.alloc {W Wc : World} {l : List (Nat × Obj)} (h : Lay W Wc l) (o : Obj) : Lay W (Wc.alloc o) ((Wc.heap.size, o) :: l) := by
  refine ⟨h.bl.alloc h.bl.size _, fun p hp => ?_⟩
  rcases List.mem_cons.1 hp with rfl | hp
  · exact ⟨h.bl.size, at1 _ _⟩
  · exact (h.go ((Below.refl _ _).alloc (Nat.le_refl _) o)).get p hp

theorem code_post {P : Program} {c : Code} {Q Q' : Exit → Act → World → Prop} {a : Act} {w : World} (h : c.wp P Q a w) (hq : ∀ e a w, Q e a w → Q' e a w) : c.wp P Q' a w := Code.wp_mono hq h

/-- The server's boxes. -/
structure Boxes (w W : World) (own peer d1 d2 : Ad) : Prop where
  size : W.heap.size = w.heap.size + 1 + 1 + 1 + 1
  x0 : W.heap[w.heap.size]? = some (.cells own.cs 49 (0, 0))
  x1 : W.heap[w.heap.size + 1]? = some (.cells peer.cs 49 (0, 0))
  x2 : W.heap[w.heap.size + 1 + 1]? = some (.cells d1.cs 49 (0, 0))
  x3 : W.heap[w.heap.size + 1 + 1 + 1]? = some (.cells d2.cs 49 (0, 0))
  bl : Below w.heap.size w W
theorem boxes_at (w : World) (own peer d1 d2 : Ad) : ∃ W, W = (((w.alloc (.cells own.cs 49 (0, 0))).alloc (.cells peer.cs 49 (0, 0))).alloc (.cells d1.cs 49 (0, 0))).alloc (.cells d2.cs 49 (0, 0)) ∧ Boxes w W own peer d1 d2 := by
  have e1 := alloc1 w (.cells own.cs 49 (0, 0))
  have e2 := alloc1 (w.alloc (.cells own.cs 49 (0, 0))) (.cells peer.cs 49 (0, 0))
  have e3 := alloc1 ((w.alloc (.cells own.cs 49 (0, 0))).alloc (.cells peer.cs 49 (0, 0))) (.cells d1.cs 49 (0, 0))
  have e4 := alloc1 (((w.alloc (.cells own.cs 49 (0, 0))).alloc (.cells peer.cs 49 (0, 0))).alloc (.cells d1.cs 49 (0, 0))) (.cells d2.cs 49 (0, 0))
  refine ⟨_, rfl, by omega, ?_, ?_, ?_, ?_, ((((Below.refl _ _).alloc (Nat.le_refl _) _).alloc (by omega) _).alloc (by omega) _).alloc (by omega) _⟩
  · rw [Below.heap_alloc _ _ _ (by omega), Below.heap_alloc _ _ _ (by omega), Below.heap_alloc _ _ _ (by omega)]; exact at1 _ _
  · rw [Below.heap_alloc _ _ _ (by omega), Below.heap_alloc _ _ _ (by omega), ← e1]; exact at1 _ _
  · rw [Below.heap_alloc _ _ _ (by omega), show w.heap.size + 1 + 1 = ((w.alloc (.cells own.cs 49 (0, 0))).alloc (.cells peer.cs 49 (0, 0))).heap.size by omega]; exact at1 _ _
  · rw [show w.heap.size + 1 + 1 + 1 = (((w.alloc (.cells own.cs 49 (0, 0))).alloc (.cells peer.cs 49 (0, 0))).alloc (.cells d1.cs 49 (0, 0))).heap.size by omega]; exact at1 _ _

theorem srv_fin {W Wc : World} {sb ob rb : Nat} {t3 vp : Int} {s1 s2 : ByteArray} (bl : Below W.heap.size W Wc) (h12 : W.heap.size ≤ sb ∧ Wc.heap[sb]? = some (.cells #[.slice none 0 0, .slice none 0 0, .slice none 0 0, .slice none 0 0, .int .i64 0, .int .i64 0, .int .i64 0, .int .i64 0] 31 (0, 0)))
    (h3 : W.heap.size ≤ ob ∧ Wc.heap[ob]? = some (.cells #[.int .i64 t3, .string s1] 46 (0, 0))) (h6 : W.heap.size ≤ rb ∧ Wc.heap[rb]? = some (.cells #[.int .i64 3, .int .i64 4, .int .i64 vp, .int .i64 vp, .string s2] 43 (0, 0))) (cf tm fl wt : Int) :
    Below W.heap.size W ((((((((Wc.setCell ⟨sb, 0, none⟩ (.slice (some ⟨ob, 0, none⟩) 1 1)).setCell ⟨sb, 1, none⟩ (.slice none 0 0)).setCell ⟨sb, 2, none⟩ (.slice (some ⟨rb, 0, none⟩) 1 1)).setCell ⟨sb, 3, none⟩ (.slice none 0 0)).setCell ⟨sb, 4, none⟩ (.int .i64 cf)).setCell ⟨sb, 5, none⟩ (.int .i64 tm)).setCell ⟨sb, 6, none⟩ (.int .i64 fl)).setCell ⟨sb, 7, none⟩ (.int .i64 wt)) ∧
    (W.heap.size ≤ sb ∧ ((((((((Wc.setCell ⟨sb, 0, none⟩ (.slice (some ⟨ob, 0, none⟩) 1 1)).setCell ⟨sb, 1, none⟩ (.slice none 0 0)).setCell ⟨sb, 2, none⟩ (.slice (some ⟨rb, 0, none⟩) 1 1)).setCell ⟨sb, 3, none⟩ (.slice none 0 0)).setCell ⟨sb, 4, none⟩ (.int .i64 cf)).setCell ⟨sb, 5, none⟩ (.int .i64 tm)).setCell ⟨sb, 6, none⟩ (.int .i64 fl)).setCell ⟨sb, 7, none⟩ (.int .i64 wt)).heap[sb]? = some (.cells #[.slice (some ⟨ob, 0, none⟩) 1 1, .slice none 0 0, .slice (some ⟨rb, 0, none⟩) 1 1, .slice none 0 0, .int .i64 cf, .int .i64 tm, .int .i64 fl, .int .i64 wt] 31 (0, 0))) ∧
    (W.heap.size ≤ ob ∧ ((((((((Wc.setCell ⟨sb, 0, none⟩ (.slice (some ⟨ob, 0, none⟩) 1 1)).setCell ⟨sb, 1, none⟩ (.slice none 0 0)).setCell ⟨sb, 2, none⟩ (.slice (some ⟨rb, 0, none⟩) 1 1)).setCell ⟨sb, 3, none⟩ (.slice none 0 0)).setCell ⟨sb, 4, none⟩ (.int .i64 cf)).setCell ⟨sb, 5, none⟩ (.int .i64 tm)).setCell ⟨sb, 6, none⟩ (.int .i64 fl)).setCell ⟨sb, 7, none⟩ (.int .i64 wt)).heap[ob]? = some (.cells #[.int .i64 t3, .string s1] 46 (0, 0))) ∧
    (W.heap.size ≤ rb ∧ ((((((((Wc.setCell ⟨sb, 0, none⟩ (.slice (some ⟨ob, 0, none⟩) 1 1)).setCell ⟨sb, 1, none⟩ (.slice none 0 0)).setCell ⟨sb, 2, none⟩ (.slice (some ⟨rb, 0, none⟩) 1 1)).setCell ⟨sb, 3, none⟩ (.slice none 0 0)).setCell ⟨sb, 4, none⟩ (.int .i64 cf)).setCell ⟨sb, 5, none⟩ (.int .i64 tm)).setCell ⟨sb, 6, none⟩ (.int .i64 fl)).setCell ⟨sb, 7, none⟩ (.int .i64 wt)).heap[rb]? = some (.cells #[.int .i64 3, .int .i64 4, .int .i64 vp, .int .i64 vp, .string s2] 43 (0, 0))) := by
  have kk := keep8 Wc sb (.slice (some ⟨ob, 0, none⟩) 1 1) (.slice none 0 0) (.slice (some ⟨rb, 0, none⟩) 1 1) (.slice none 0 0) (.int .i64 cf) (.int .i64 tm) (.int .i64 fl) (.int .i64 wt)
  have ne1 : ob ≠ sb := by
    rintro rfl
    have := h3.2.symm.trans h12.2
    simp at this
  have ne2 : rb ≠ sb := by
    rintro rfl
    have := h6.2.symm.trans h12.2
    simp at this
  have l1 := (Array.getElem?_eq_some_iff.1 h3.2).1
  have l2 := (Array.getElem?_eq_some_iff.1 h6.2).1
  have hs := bl.size
  have h1 := h12.1
  exact ⟨bl.trans (kk.below hs (fun k hk he => by omega)), ⟨h12.1, set8 h12.2 _ _ _ _ _ _ _ _⟩, ⟨h3.1, (kk.block ob l1 ne1).trans h3.2⟩, ⟨h6.1, (kk.block rb l2 ne2).trans h6.2⟩⟩

def srvR (peer d1 d2 : Ad) : List Rl := [justR 3 peer] ++ (if adE d1 Ad.z then [] else [justR 129 d1]) ++ (if adE d2 Ad.z then [] else [justR 131 d2])
theorem just_fits (k : Int) (x : Ad) : wrongR (justR k x) = false := by
  unfold wrongR justR fitsR
  have h1 : x.s.size = 4 := rfl
  have h2 : x.s.data.toList.take 7 = [x.a, x.b, x.c, x.d] := rfl
  simp [h1, h2]
theorem srvR_ok (peer d1 d2 : Ad) : (srvR peer d1 d2).length ≤ 3 ∧ (∀ r ∈ srvR peer d1 d2, r.s.size ≤ 100000) ∧ (srvR peer d1 d2).any wrongR = false := by
  have h : ∀ r ∈ srvR peer d1 d2, ∃ k x, r = justR k x := by
    intro r hr
    unfold srvR at hr
    simp only [List.mem_append, List.mem_singleton] at hr
    rcases hr with (rfl | hr) | hr
    · exact ⟨_, _, rfl⟩
    · split at hr
      · cases hr
      · simp only [List.mem_singleton] at hr; exact ⟨_, _, hr⟩
    · split at hr
      · cases hr
      · simp only [List.mem_singleton] at hr; exact ⟨_, _, hr⟩
  refine ⟨?_, fun r hr => ?_, ?_⟩
  · unfold srvR; split <;> split <;> simp
  · obtain ⟨k, x, rfl⟩ := h r hr
    show 4 ≤ 100000; decide
  · rw [List.any_eq_false]
    intro r hr
    obtain ⟨k, x, rfl⟩ := h r hr
    simp [just_fits]

def SrvQ (w W : World) (own peer d1 d2 : Ad) (cf tm fl wt vp : Int) (a' : Act) (w' : World) : Prop := ∃ sb ob rb, Below W.heap.size W w' ∧ (W.heap.size ≤ sb ∧ w'.heap[sb]? = some (.cells #[.slice (some ⟨ob, 0, none⟩) 1 1, .slice none 0 0, .slice (some ⟨rb, 0, none⟩) 1 1, .slice none 0 0, .int .i64 cf, .int .i64 tm, .int .i64 fl, .int .i64 wt] 31 (0, 0))) ∧ (W.heap.size ≤ ob ∧ w'.heap[ob]? = some (.cells #[.int .i64 3, .string own.s] 46 (0, 0))) ∧ (W.heap.size ≤ rb ∧ w'.heap[rb]? = some (.cells #[.int .i64 3, .int .i64 4, .int .i64 vp, .int .i64 vp, .string peer.s] 43 (0, 0))) ∧ a' = ⟨#[.agg #[.int .u8 (own.a.toNat : Int), .int .u8 (own.b.toNat : Int), .int .u8 (own.c.toNat : Int), .int .u8 (own.d.toNat : Int)], .agg #[.int .u8 (peer.a.toNat : Int), .int .u8 (peer.b.toNat : Int), .int .u8 (peer.c.toNat : Int), .int .u8 (peer.d.toNat : Int)], .agg #[.int .u8 (d1.a.toNat : Int), .int .u8 (d1.b.toNat : Int), .int .u8 (d1.c.toNat : Int), .int .u8 (d1.d.toNat : Int)], .agg #[.int .u8 (d2.a.toNat : Int), .int .u8 (d2.b.toNat : Int), .int .u8 (d2.c.toNat : Int), .int .u8 (d2.d.toNat : Int)], .int .i64 cf, .int .i64 tm, .int .i64 fl, .int .i64 wt, .pointer (some ⟨w.heap.size, 0, none⟩), .pointer (some ⟨w.heap.size + 1, 0, none⟩), .pointer (some ⟨w.heap.size + 1 + 1, 0, none⟩), .pointer (some ⟨w.heap.size + 1 + 1 + 1, 0, none⟩), undef, undef, undef, undef, .pointer none, .int .i64 0, .pointer (some ⟨sb, 0, none⟩), .slice (some ⟨w.heap.size, 0, none⟩) 4 4, .string own.s, .agg #[.int .i64 3, .string own.s], .slice (some ⟨ob, 0, none⟩) 1 1, .agg #[.int .u8 (peer.a.toNat : Int), .int .u8 (peer.b.toNat : Int), .int .u8 (peer.c.toNat : Int), .int .u8 (peer.d.toNat : Int)], .agg #[.int .i64 3, .int .i64 4, .int .i64 vp, .int .i64 vp, .string peer.s], .slice (some ⟨rb, 0, none⟩) 1 1, .int .i64 cf, .int .i64 tm, .int .i64 fl, .int .i64 wt, .agg #[.slice (some ⟨ob, 0, none⟩) 1 1, .slice none 0 0, .slice (some ⟨rb, 0, none⟩) 1 1, .slice none 0 0, .int .i64 cf, .int .i64 tm, .int .i64 fl, .int .i64 wt], undef, undef, undef, undef, undef, undef, undef, undef, undef, undef, undef, undef, undef, undef, undef, undef, undef, undef, undef, undef, undef, undef, undef, undef], []⟩

theorem RRow.nil0 {w : World} {B n c : Nat} {l : List Rl} (h : RRow w B (.slice none n c) l) : c = 0 := by
  obtain ⟨_, h | ⟨g, cap, cur, h, _⟩⟩ := h
  · have := h.1; simp at this; exact this.2
  · cases h
/-- The server's Setup, as it is filled. -/
structure SrvI (w wr : World) (d1 d2 : Ad) (sb : Nat) (ov pv : Value) (al : List Opt) (rs : List Rl) (cf tm fl wt : Int) : Prop where
  bl : Below w.heap.size w wr
  x2 : wr.heap[w.heap.size + 1 + 1]? = some (.cells d1.cs 49 (0, 0))
  x3 : wr.heap[w.heap.size + 1 + 1 + 1]? = some (.cells d2.cs 49 (0, 0))
  sbk : wr.heap[sb]? = some (.cells #[ov, .slice none 0 0, pv, .slice none 0 0, .int .i64 cf, .int .i64 tm, .int .i64 fl, .int .i64 wt] 31 (0, 0))
  hsb : w.heap.size + 1 + 1 + 1 + 1 ≤ sb
  orow : ORow wr w.heap.size ov al
  rrow : RRow wr (w.heap.size + 1 + 1 + 1 + 1) pv rs
  ne1 : ∀ k, pv.ownBlock = some k → k ≠ sb
  ne2 : ∀ k, ov.ownBlock = some k → k ≠ sb
  ne3 : ∀ k, ov.ownBlock = some k → pv.ownBlock ≠ some k
theorem SrvI.go {w wr w' : World} {d1 d2 : Ad} {sb : Nat} {ov pv : Value} {al : List Opt} {rs : List Rl} {cf tm fl wt : Int} (h : SrvI w wr d1 d2 sb ov pv al rs cf tm fl wt) (hb : Below wr.heap.size wr w') : SrvI w w' d1 d2 sb ov pv al rs cf tm fl wt := by
  have l := fun {k : Nat} {o : Obj} (e : wr.heap[k]? = some o) => (Array.getElem?_eq_some_iff.1 e).1
  exact { h with bl := h.bl.trans (hb.mono h.bl.size), x2 := (hb.block _ (l h.x2)).trans h.x2, x3 := (hb.block _ (l h.x3)).trans h.x3, sbk := (hb.block _ (l h.sbk)).trans h.sbk, orow := h.orow.below hb, rrow := h.rrow.below hb }
theorem SrvI.app {w wr w' : World} {d1 d2 : Ad} {sb : Nat} {ov pv pv' : Value} {al : List Opt} {rs rs' : List Rl} {cf tm fl wt : Int} (h : SrvI w wr d1 d2 sb ov pv al rs cf tm fl wt) (hk : Keep (fun k => pv.ownBlock = some k) wr w')
    (hr : RRow w' (w.heap.size + 1 + 1 + 1 + 1) pv' rs') (ho : pv'.ownBlock = pv.ownBlock ∨ pv'.ownBlock = some wr.heap.size) : SrvI w (w'.setCell ⟨sb, 2, none⟩ pv') d1 d2 sb ov pv' al rs' cf tm fl wt := by
  have l := fun {k : Nat} {o : Obj} (e : wr.heap[k]? = some o) => (Array.getElem?_eq_some_iff.1 e).1
  have l2 := l h.x2
  have l3 := l h.x3
  have l4 := l h.sbk
  have hsb := h.hsb
  have hs := hk.size
  have hk2 : Keep (fun b => b = sb) w' (w'.setCell ⟨sb, 2, none⟩ pv') := (Keep.refl (fun b => b = sb) w').setCell ⟨sb, 2, none⟩ (Or.inr rfl) pv'
  have hn : ∀ k, k < w.heap.size + 1 + 1 + 1 + 1 → ¬ pv.ownBlock = some k := fun k hk he => by have := (h.rrow.lt k he).2; omega
  have y2 := (hk.block _ l2 (hn _ (by omega))).trans h.x2
  have y3 := (hk.block _ l3 (hn _ (by omega))).trans h.x3
  have y4 := (hk.block sb l4 (fun he => h.ne1 sb he rfl)).trans h.sbk
  have hn' : ∀ k, pv'.ownBlock = some k → k ≠ sb := fun k hk' e => by
    rcases ho with ho | ho
    · exact h.ne1 k (by rw [← ho]; exact hk') e
    · rw [ho] at hk'; cases hk'; omega
  refine { h with bl := h.bl.trans ((hk.below h.bl.size (fun k hk he => hn k (by omega) he)).trans (hk2.below (by have := h.bl.size; omega) (fun k hk he => by omega))), x2 := (hk2.block _ (by omega) (by omega)).trans y2, x3 := (hk2.block _ (by omega) (by omega)).trans y3, sbk := ?_, orow := ?_, rrow := hr.keep hk2 (fun k hk he => hn' k hk he), ne1 := hn', ne3 := ?_ }
  · have := set_block y4 2 pv'
    simpa using this
  · exact (h.orow.keep hk (fun k hk => h.ne3 k hk)).keep hk2 (fun k hk he => h.ne2 k hk he)
  · intro k hk1 hk2'
    rcases ho with ho | ho
    · exact h.ne3 k hk1 (by rw [← ho]; exact hk2')
    · rw [ho] at hk2'; cases hk2'; exact absurd (h.orow.lt _ hk1).1 (Nat.lt_irrefl _)
theorem SrvQ.inv {w W : World} {own peer d1 d2 : Ad} {sb ob rb : Nat} {cf tm fl wt vp : Int} {w' : World} (HB : Boxes w W own peer d1 d2) (hz : Below W.heap.size W w') (hs : W.heap.size ≤ sb ∧ w'.heap[sb]? = some (.cells #[.slice (some ⟨ob, 0, none⟩) 1 1, .slice none 0 0, .slice (some ⟨rb, 0, none⟩) 1 1, .slice none 0 0, .int .i64 cf, .int .i64 tm, .int .i64 fl, .int .i64 wt] 31 (0, 0)))
    (ho : W.heap.size ≤ ob ∧ w'.heap[ob]? = some (.cells #[.int .i64 3, .string own.s] 46 (0, 0))) (hr : W.heap.size ≤ rb ∧ w'.heap[rb]? = some (.cells #[.int .i64 3, .int .i64 4, .int .i64 vp, .int .i64 vp, .string peer.s] 43 (0, 0))) :
    SrvI w w' d1 d2 sb (.slice (some ⟨ob, 0, none⟩) 1 1) (.slice (some ⟨rb, 0, none⟩) 1 1) [⟨3, own.s⟩] [⟨3, 4, vp, vp, peer.s⟩] cf tm fl wt := by
  have z := HB.size
  have n1 : ob ≠ sb := by rintro rfl; have := ho.2.symm.trans hs.2; simp at this
  have n2 : rb ≠ sb := by rintro rfl; have := hr.2.symm.trans hs.2; simp at this
  have n3 : ob ≠ rb := by rintro rfl; have := ho.2.symm.trans hr.2; simp at this
  refine ⟨HB.bl.trans (hz.mono HB.bl.size), (hz.block _ (by omega)).trans HB.x2, (hz.block _ (by omega)).trans HB.x3, hs.2, by omega, ORow.one ⟨3, own.s⟩ ho.2 (by omega), RRow.one ⟨3, 4, vp, vp, peer.s⟩ hr.2 (by omega), ?_, ?_, ?_⟩
  · intro k hk; cases hk; exact n2
  · intro k hk; cases hk; exact n1
  · intro k hk hk'; cases hk; cases hk'; exact n3 rfl

set_option maxHeartbeats 16000000 in
set_option maxRecDepth 100000 in
theorem server_any (own peer d1 d2 : Ad) (cf tm fl wt : Int) (w : World) (hcf : 1 ≤ cf ∧ cf ≤ 20) (htm : 1 ≤ tm ∧ tm ≤ 20) (hfl : 0 ≤ fl ∧ fl ≤ 20) (hwt : 1 ≤ wt ∧ wt ≤ 100) :
    Calls Try.prog 27 #[own.v, peer.v, d1.v, d2.v, .int .i64 cf, .int .i64 tm, .int .i64 fl, .int .i64 wt] w fun e w' => ∃ v, e = .returned v ∧ NewAt w w' v [⟨3, own.s⟩] [] (srvR peer d1 d2) [] cf tm fl wt := by
  obtain ⟨W, hW, hbx⟩ := boxes_at w own peer d1 d2
  have HB := Lib.hid hbx
  unfold Ad.v
  unfold Ad.cs at hW
  have HJ := Lib.hid (fun w => just_any 3 peer w)
  unfold Ad.v at HJ
  obtain ⟨vp, hvp⟩ : ∃ vp, vp = valB [peer.a, peer.b, peer.c, peer.d] := ⟨_, rfl⟩
  rw [← hvp] at HJ
  have HJ1 := Lib.hid (fun w => just_any 129 d1 w)
  have HJ2 := Lib.hid (fun w => just_any 131 d2 w)
  unfold Ad.v at HJ1 HJ2
  obtain ⟨vp1, hvp1⟩ : ∃ vp, vp = valB [d1.a, d1.b, d1.c, d1.d] := ⟨_, rfl⟩
  rw [← hvp1] at HJ1
  obtain ⟨vp2, hvp2⟩ : ∃ vp, vp = valB [d2.a, d2.b, d2.c, d2.d] := ⟨_, rfl⟩
  rw [← hvp2] at HJ2
  have n1 := adNeq d1 Ad.z
  have n2 := adNeq d2 Ad.z
  rw [← adz] at n1 n2
  unfold Ad.v at n1 n2
  have HR : Hid (srvR peer d1 d2 = [⟨3, 4, vp, vp, peer.s⟩] ++ (if adE d1 Ad.z then [] else [⟨129, 4, vp1, vp1, d1.s⟩]) ++ (if adE d2 Ad.z then [] else [⟨131, 4, vp2, vp2, d2.s⟩])) := Lib.hid (by rw [hvp, hvp1, hvp2]; rfl)
  have HW := Lib.hid (srvR_ok peer d1 d2)
  have HA := Lib.hid (And.intro hcf (And.intro htm (And.intro hfl hwt)))
  generalize srvR peer d1 d2 = RS at HR HW ⊢
  generalize adE d1 Ad.z = y1 at n1 HR
  generalize adE d2 Ad.z = y2 at n2 HR
  have HS : Hid (∀ X l, Lay W X l → (convert 82 9 (.slice (some ⟨w.heap.size, 0, none⟩) 4 4)).run Try.prog X = .ok (.string own.s) X ∧ X.cell? ⟨w.heap.size + 1, 0, none⟩ = some (.int .u8 (peer.a.toNat : Int)) ∧ X.cell? ⟨w.heap.size + 1, 1, none⟩ = some (.int .u8 (peer.b.toNat : Int)) ∧ X.cell? ⟨w.heap.size + 1, 2, none⟩ = some (.int .u8 (peer.c.toNat : Int)) ∧ X.cell? ⟨w.heap.size + 1, 3, none⟩ = some (.int .u8 (peer.d.toNat : Int))) := Lib.hid (by
    intro X l hX
    have y0 := (hX.bl.block w.heap.size (by have := HB.out.size; omega)).trans HB.out.x0
    have y1 := (hX.bl.block (w.heap.size + 1) (by have := HB.out.size; omega)).trans HB.out.x1
    exact ⟨conv_ad own _ X y0, cellOf y1 0 _ rfl, cellOf y1 1 _ rfl, cellOf y1 2 _ rfl, cellOf y1 3 _ rfl⟩)
  clear hbx hvp hvp1 hvp2 hcf htm hfl hwt
  go_enter Try.func27, Try.ntmps27
  go_wp2_with fail
  rw [← hW]
  clear hW
  refine code_post (Q := fun e a' w' => match e with | .normal => SrvQ w W own peer d1 d2 cf tm fl wt vp a' w' | _ => False) ?_ ?_
  refine wp_region_N 13 (fun X : World => (convert 82 9 (.slice (some ⟨w.heap.size, 0, none⟩) 4 4)).run Try.prog X = .ok (.string own.s) X ∧ X.cell? ⟨w.heap.size + 1, 0, none⟩ = some (.int .u8 (peer.a.toNat : Int)) ∧ X.cell? ⟨w.heap.size + 1, 1, none⟩ = some (.int .u8 (peer.b.toNat : Int)) ∧ X.cell? ⟨w.heap.size + 1, 2, none⟩ = some (.int .u8 (peer.c.toNat : Int)) ∧ X.cell? ⟨w.heap.size + 1, 3, none⟩ = some (.int .u8 (peer.d.toNat : Int))) (by kernel_rfl) ?_
  have HL : Hid (Lay W W.drew []) := Lib.hid ⟨(Below.refl _ _).drew, fun p hp => by cases hp⟩
  have HSv := HS.out _ _ HL.out
  generalize W.drew = V0 at HL HSv ⊢
  refine wpAnyN_at 0 (v := ?vv45) rfl (by kernel_rfl) (by kernel_rfl) (by kernel_rfl) (fun _ _ _ h => h) ?hy45 HSv ?hh45
  case hy45 =>
    refine Or.inl ⟨by rfl, ?_⟩
    intro W hW
    obtain ⟨h0, h1, h2, h3, h4⟩ := hW
    go_simp
    try with_reducible rfl
  simp only [Act.put, List.setIfInBounds_toArray, List.set_cons_zero, List.set_cons_succ]
  refine wpAnyN_at 1 (v := ?vv46) rfl (by kernel_rfl) (by kernel_rfl) (by kernel_rfl) (fun _ _ _ h => h) ?hy46 HSv ?hh46
  case hy46 =>
    refine Or.inl ⟨by rfl, ?_⟩
    intro W hW
    obtain ⟨h0, h1, h2, h3, h4⟩ := hW
    go_simp
    try with_reducible rfl
  simp only [Act.put, List.setIfInBounds_toArray, List.set_cons_zero, List.set_cons_succ]
  refine wpAnyN_at 2 (v := ?vv47) rfl (by kernel_rfl) (by kernel_rfl) (by kernel_rfl) (fun _ _ _ h => h) ?hy47 HSv ?hh47
  case hy47 =>
    refine Or.inl ⟨by rfl, ?_⟩
    intro W hW
    obtain ⟨h0, h1, h2, h3, h4⟩ := hW
    go_simp
    try with_reducible rfl
  simp only [Act.put, List.setIfInBounds_toArray, List.set_cons_zero, List.set_cons_succ]
  refine wpAnyN_at 4 (v := ?vv48) rfl (by kernel_rfl) (by kernel_rfl) (by kernel_rfl) (fun _ _ _ h => h) ?hy48 HSv ?hh48
  case hy48 =>
    refine Or.inl ⟨by rfl, ?_⟩
    intro W hW
    obtain ⟨h0, h1, h2, h3, h4⟩ := hW
    go_simp
    try with_reducible rfl
  simp only [Act.put, List.setIfInBounds_toArray, List.set_cons_zero, List.set_cons_succ]
  refine wpAnyN_at 7 (v := ?vv49) rfl (by kernel_rfl) (by kernel_rfl) (by kernel_rfl) (fun _ _ _ h => h) ?hy49 HSv ?hh49
  case hy49 =>
    refine Or.inl ⟨by rfl, ?_⟩
    intro W hW
    obtain ⟨h0, h1, h2, h3, h4⟩ := hW
    go_simp
    try with_reducible rfl
  simp only [Act.put, List.setIfInBounds_toArray, List.set_cons_zero, List.set_cons_succ]
  refine wpAnyN_at 8 (v := ?vv50) rfl (by kernel_rfl) (by kernel_rfl) (by kernel_rfl) (fun _ _ _ h => h) ?hy50 HSv ?hh50
  case hy50 =>
    refine Or.inl ⟨by rfl, ?_⟩
    intro W hW
    obtain ⟨h0, h1, h2, h3, h4⟩ := hW
    go_simp
    try with_reducible rfl
  simp only [Act.put, List.setIfInBounds_toArray, List.set_cons_zero, List.set_cons_succ]
  refine wpAnyN_at 9 (v := ?vv51) rfl (by kernel_rfl) (by kernel_rfl) (by kernel_rfl) (fun _ _ _ h => h) ?hy51 HSv ?hh51
  case hy51 =>
    refine Or.inl ⟨by rfl, ?_⟩
    intro W hW
    obtain ⟨h0, h1, h2, h3, h4⟩ := hW
    go_simp
    try with_reducible rfl
  simp only [Act.put, List.setIfInBounds_toArray, List.set_cons_zero, List.set_cons_succ]
  refine wpAnyN_at 10 (v := ?vv52) rfl (by kernel_rfl) (by kernel_rfl) (by kernel_rfl) (fun _ _ _ h => h) ?hy52 HSv ?hh52
  case hy52 =>
    refine Or.inl ⟨by rfl, ?_⟩
    intro W hW
    obtain ⟨h0, h1, h2, h3, h4⟩ := hW
    go_simp
    try with_reducible rfl
  simp only [Act.put, List.setIfInBounds_toArray, List.set_cons_zero, List.set_cons_succ]
  refine wpAnyN_3 3 5 12 rfl rfl rfl (by kernel_rfl) ?_ ?_ ?_
  · intro K hK
    rw [if_pos (by rfl)]
    try go_simp
    have HL := Lib.hid (HL.out.alloc (.cells #[.int .i64 3, .string own.s] 46 (0, 0)))
    generalize V0.alloc (.cells #[.int .i64 3, .string own.s] 46 (0, 0)) = V1 at HL ⊢
    generalize V0.heap.size = b3 at HL ⊢
    have HSv := HS.out _ _ HL.out
    refine hK _ _ (fun _ => HSv) ?_
    try simp only [Act.put, List.setIfInBounds_toArray, List.set_cons_zero, List.set_cons_succ]
    refine wpAnyN_2 5 12 rfl rfl (by kernel_rfl) ?_ ?_
    · intro K hK
      rw [if_pos (by rfl)]
      try go_simp
      go_at_call 43
      refine (HJ.out _).mono ?_
      rintro e V2 ⟨rfl, hb⟩
      have HL := Lib.hid (HL.out.go hb)
      clear hb
      have HSv := HS.out _ _ HL.out
      refine hK _ _ (fun _ => HSv) ?_
      try simp only [Act.put, List.setIfInBounds_toArray, List.set_cons_zero, List.set_cons_succ]
      refine wpAnyN_2 6 12 rfl rfl (by kernel_rfl) ?_ ?_
      · intro K hK
        rw [if_pos (by rfl)]
        try go_simp
        have HL := Lib.hid (HL.out.alloc (.cells #[.int .i64 3, .int .i64 4, .int .i64 vp, .int .i64 vp, .string peer.s] 43 (0, 0)))
        generalize V2.alloc (.cells #[.int .i64 3, .int .i64 4, .int .i64 vp, .int .i64 vp, .string peer.s] 43 (0, 0)) = V3 at HL ⊢
        generalize V2.heap.size = b6 at HL ⊢
        have HSv := HS.out _ _ HL.out
        refine hK _ _ (fun _ => HSv) ?_
        try simp only [Act.put, List.setIfInBounds_toArray, List.set_cons_zero, List.set_cons_succ]
        refine wpAnyN_at 11 (v := ?vv53) rfl (by kernel_rfl) (by kernel_rfl) (by kernel_rfl) (fun _ _ _ h => h) ?hy53 HSv ?hh53
        case hy53 =>
          refine Or.inl ⟨by rfl, ?_⟩
          intro W hW
          obtain ⟨h0, h1, h2, h3, h4⟩ := hW
          go_simp
          try with_reducible rfl
        simp only [Act.put, List.setIfInBounds_toArray, List.set_cons_zero, List.set_cons_succ]
        refine wpAnyN_1 12 rfl (by kernel_rfl) ?_
        · intro K hK
          rw [if_pos (by rfl)]
          try go_simp
          have HL := Lib.hid (HL.out.alloc (.cells #[.slice none 0 0, .slice none 0 0, .slice none 0 0, .slice none 0 0, .int .i64 0, .int .i64 0, .int .i64 0, .int .i64 0] 31 (0, 0)))
          generalize V3.alloc (.cells #[.slice none 0 0, .slice none 0 0, .slice none 0 0, .slice none 0 0, .int .i64 0, .int .i64 0, .int .i64 0, .int .i64 0] 31 (0, 0)) = V4 at HL ⊢
          generalize V3.heap.size = b12 at HL ⊢
          have HSv := HS.out _ _ HL.out
          refine hK _ _ (fun _ => HSv) ?_
          try simp only [Act.put, List.setIfInBounds_toArray, List.set_cons_zero, List.set_cons_succ]
          refine wpAnyN_end 13 (by decide) rfl (by kernel_rfl) ?_
          simp only [List.drop_succ_cons, List.drop_zero]
          have y12 := (HL.out.get (b12, (.cells #[.slice none 0 0, .slice none 0 0, .slice none 0 0, .slice none 0 0, .int .i64 0, .int .i64 0, .int .i64 0, .int .i64 0] 31 (0, 0))) (by simp only [List.mem_cons, true_or, or_true])).2
          have z := fun o => fzOf y12 o
          have c0 := cellOf y12 0 _ rfl
          have c1 := cellOf y12 1 _ rfl
          have c2 := cellOf y12 2 _ rfl
          have c3 := cellOf y12 3 _ rfl
          have c4 := cellOf y12 4 _ rfl
          have c5 := cellOf y12 5 _ rfl
          have c6 := cellOf y12 6 _ rfl
          have c7 := cellOf y12 7 _ rfl
          go_wp2_with fail
          have hf := srv_fin HL.out.bl (HL.out.get (b12, (.cells #[.slice none 0 0, .slice none 0 0, .slice none 0 0, .slice none 0 0, .int .i64 0, .int .i64 0, .int .i64 0, .int .i64 0] 31 (0, 0))) (by simp only [List.mem_cons, true_or, or_true])) (HL.out.get (b3, (.cells #[.int .i64 3, .string own.s] 46 (0, 0))) (by simp only [List.mem_cons, true_or, or_true])) (HL.out.get (b6, (.cells #[.int .i64 3, .int .i64 4, .int .i64 vp, .int .i64 vp, .string peer.s] 43 (0, 0))) (by simp only [List.mem_cons, true_or, or_true])) cf tm fl wt
          show SrvQ _ _ _ _ _ _ _ _ _ _ _ _ _
          unfold SrvQ
          exact ⟨b12, b3, b6, hf.1, hf.2.1, hf.2.2.1, hf.2.2.2, rfl⟩
      · intro K hK
        rw [if_pos (by rfl)]
        try go_simp
        have HL := Lib.hid (HL.out.alloc (.cells #[.slice none 0 0, .slice none 0 0, .slice none 0 0, .slice none 0 0, .int .i64 0, .int .i64 0, .int .i64 0, .int .i64 0] 31 (0, 0)))
        generalize V2.alloc (.cells #[.slice none 0 0, .slice none 0 0, .slice none 0 0, .slice none 0 0, .int .i64 0, .int .i64 0, .int .i64 0, .int .i64 0] 31 (0, 0)) = V5 at HL ⊢
        generalize V2.heap.size = b12 at HL ⊢
        have HSv := HS.out _ _ HL.out
        refine hK _ _ (fun _ => HSv) ?_
        try simp only [Act.put, List.setIfInBounds_toArray, List.set_cons_zero, List.set_cons_succ]
        refine wpAnyN_1 6 rfl (by kernel_rfl) ?_
        · intro K hK
          rw [if_pos (by rfl)]
          try go_simp
          have HL := Lib.hid (HL.out.alloc (.cells #[.int .i64 3, .int .i64 4, .int .i64 vp, .int .i64 vp, .string peer.s] 43 (0, 0)))
          generalize V5.alloc (.cells #[.int .i64 3, .int .i64 4, .int .i64 vp, .int .i64 vp, .string peer.s] 43 (0, 0)) = V6 at HL ⊢
          generalize V5.heap.size = b6 at HL ⊢
          have HSv := HS.out _ _ HL.out
          refine hK _ _ (fun _ => HSv) ?_
          try simp only [Act.put, List.setIfInBounds_toArray, List.set_cons_zero, List.set_cons_succ]
          refine wpAnyN_at 11 (v := ?vv54) rfl (by kernel_rfl) (by kernel_rfl) (by kernel_rfl) (fun _ _ _ h => h) ?hy54 HSv ?hh54
          case hy54 =>
            refine Or.inl ⟨by rfl, ?_⟩
            intro W hW
            obtain ⟨h0, h1, h2, h3, h4⟩ := hW
            go_simp
            try with_reducible rfl
          simp only [Act.put, List.setIfInBounds_toArray, List.set_cons_zero, List.set_cons_succ]
          refine wpAnyN_end 13 (by decide) rfl (by kernel_rfl) ?_
          simp only [List.drop_succ_cons, List.drop_zero]
          have y12 := (HL.out.get (b12, (.cells #[.slice none 0 0, .slice none 0 0, .slice none 0 0, .slice none 0 0, .int .i64 0, .int .i64 0, .int .i64 0, .int .i64 0] 31 (0, 0))) (by simp only [List.mem_cons, true_or, or_true])).2
          have z := fun o => fzOf y12 o
          have c0 := cellOf y12 0 _ rfl
          have c1 := cellOf y12 1 _ rfl
          have c2 := cellOf y12 2 _ rfl
          have c3 := cellOf y12 3 _ rfl
          have c4 := cellOf y12 4 _ rfl
          have c5 := cellOf y12 5 _ rfl
          have c6 := cellOf y12 6 _ rfl
          have c7 := cellOf y12 7 _ rfl
          go_wp2_with fail
          have hf := srv_fin HL.out.bl (HL.out.get (b12, (.cells #[.slice none 0 0, .slice none 0 0, .slice none 0 0, .slice none 0 0, .int .i64 0, .int .i64 0, .int .i64 0, .int .i64 0] 31 (0, 0))) (by simp only [List.mem_cons, true_or, or_true])) (HL.out.get (b3, (.cells #[.int .i64 3, .string own.s] 46 (0, 0))) (by simp only [List.mem_cons, true_or, or_true])) (HL.out.get (b6, (.cells #[.int .i64 3, .int .i64 4, .int .i64 vp, .int .i64 vp, .string peer.s] 43 (0, 0))) (by simp only [List.mem_cons, true_or, or_true])) cf tm fl wt
          show SrvQ _ _ _ _ _ _ _ _ _ _ _ _ _
          unfold SrvQ
          exact ⟨b12, b3, b6, hf.1, hf.2.1, hf.2.2.1, hf.2.2.2, rfl⟩
    · intro K hK
      rw [if_pos (by rfl)]
      try go_simp
      have HL := Lib.hid (HL.out.alloc (.cells #[.slice none 0 0, .slice none 0 0, .slice none 0 0, .slice none 0 0, .int .i64 0, .int .i64 0, .int .i64 0, .int .i64 0] 31 (0, 0)))
      generalize V1.alloc (.cells #[.slice none 0 0, .slice none 0 0, .slice none 0 0, .slice none 0 0, .int .i64 0, .int .i64 0, .int .i64 0, .int .i64 0] 31 (0, 0)) = V7 at HL ⊢
      generalize V1.heap.size = b12 at HL ⊢
      have HSv := HS.out _ _ HL.out
      refine hK _ _ (fun _ => HSv) ?_
      try simp only [Act.put, List.setIfInBounds_toArray, List.set_cons_zero, List.set_cons_succ]
      refine wpAnyN_1 5 rfl (by kernel_rfl) ?_
      · intro K hK
        rw [if_pos (by rfl)]
        try go_simp
        go_at_call 43
        refine (HJ.out _).mono ?_
        rintro e V8 ⟨rfl, hb⟩
        have HL := Lib.hid (HL.out.go hb)
        clear hb
        have HSv := HS.out _ _ HL.out
        refine hK _ _ (fun _ => HSv) ?_
        try simp only [Act.put, List.setIfInBounds_toArray, List.set_cons_zero, List.set_cons_succ]
        refine wpAnyN_1 6 rfl (by kernel_rfl) ?_
        · intro K hK
          rw [if_pos (by rfl)]
          try go_simp
          have HL := Lib.hid (HL.out.alloc (.cells #[.int .i64 3, .int .i64 4, .int .i64 vp, .int .i64 vp, .string peer.s] 43 (0, 0)))
          generalize V8.alloc (.cells #[.int .i64 3, .int .i64 4, .int .i64 vp, .int .i64 vp, .string peer.s] 43 (0, 0)) = V9 at HL ⊢
          generalize V8.heap.size = b6 at HL ⊢
          have HSv := HS.out _ _ HL.out
          refine hK _ _ (fun _ => HSv) ?_
          try simp only [Act.put, List.setIfInBounds_toArray, List.set_cons_zero, List.set_cons_succ]
          refine wpAnyN_at 11 (v := ?vv55) rfl (by kernel_rfl) (by kernel_rfl) (by kernel_rfl) (fun _ _ _ h => h) ?hy55 HSv ?hh55
          case hy55 =>
            refine Or.inl ⟨by rfl, ?_⟩
            intro W hW
            obtain ⟨h0, h1, h2, h3, h4⟩ := hW
            go_simp
            try with_reducible rfl
          simp only [Act.put, List.setIfInBounds_toArray, List.set_cons_zero, List.set_cons_succ]
          refine wpAnyN_end 13 (by decide) rfl (by kernel_rfl) ?_
          simp only [List.drop_succ_cons, List.drop_zero]
          have y12 := (HL.out.get (b12, (.cells #[.slice none 0 0, .slice none 0 0, .slice none 0 0, .slice none 0 0, .int .i64 0, .int .i64 0, .int .i64 0, .int .i64 0] 31 (0, 0))) (by simp only [List.mem_cons, true_or, or_true])).2
          have z := fun o => fzOf y12 o
          have c0 := cellOf y12 0 _ rfl
          have c1 := cellOf y12 1 _ rfl
          have c2 := cellOf y12 2 _ rfl
          have c3 := cellOf y12 3 _ rfl
          have c4 := cellOf y12 4 _ rfl
          have c5 := cellOf y12 5 _ rfl
          have c6 := cellOf y12 6 _ rfl
          have c7 := cellOf y12 7 _ rfl
          go_wp2_with fail
          have hf := srv_fin HL.out.bl (HL.out.get (b12, (.cells #[.slice none 0 0, .slice none 0 0, .slice none 0 0, .slice none 0 0, .int .i64 0, .int .i64 0, .int .i64 0, .int .i64 0] 31 (0, 0))) (by simp only [List.mem_cons, true_or, or_true])) (HL.out.get (b3, (.cells #[.int .i64 3, .string own.s] 46 (0, 0))) (by simp only [List.mem_cons, true_or, or_true])) (HL.out.get (b6, (.cells #[.int .i64 3, .int .i64 4, .int .i64 vp, .int .i64 vp, .string peer.s] 43 (0, 0))) (by simp only [List.mem_cons, true_or, or_true])) cf tm fl wt
          show SrvQ _ _ _ _ _ _ _ _ _ _ _ _ _
          unfold SrvQ
          exact ⟨b12, b3, b6, hf.1, hf.2.1, hf.2.2.1, hf.2.2.2, rfl⟩
  · intro K hK
    rw [if_pos (by rfl)]
    try go_simp
    go_at_call 43
    refine (HJ.out _).mono ?_
    rintro e V10 ⟨rfl, hb⟩
    have HL := Lib.hid (HL.out.go hb)
    clear hb
    have HSv := HS.out _ _ HL.out
    refine hK _ _ (fun _ => HSv) ?_
    try simp only [Act.put, List.setIfInBounds_toArray, List.set_cons_zero, List.set_cons_succ]
    refine wpAnyN_3 3 6 12 rfl rfl rfl (by kernel_rfl) ?_ ?_ ?_
    · intro K hK
      rw [if_pos (by rfl)]
      try go_simp
      have HL := Lib.hid (HL.out.alloc (.cells #[.int .i64 3, .string own.s] 46 (0, 0)))
      generalize V10.alloc (.cells #[.int .i64 3, .string own.s] 46 (0, 0)) = V11 at HL ⊢
      generalize V10.heap.size = b3 at HL ⊢
      have HSv := HS.out _ _ HL.out
      refine hK _ _ (fun _ => HSv) ?_
      try simp only [Act.put, List.setIfInBounds_toArray, List.set_cons_zero, List.set_cons_succ]
      refine wpAnyN_2 6 12 rfl rfl (by kernel_rfl) ?_ ?_
      · intro K hK
        rw [if_pos (by rfl)]
        try go_simp
        have HL := Lib.hid (HL.out.alloc (.cells #[.int .i64 3, .int .i64 4, .int .i64 vp, .int .i64 vp, .string peer.s] 43 (0, 0)))
        generalize V11.alloc (.cells #[.int .i64 3, .int .i64 4, .int .i64 vp, .int .i64 vp, .string peer.s] 43 (0, 0)) = V12 at HL ⊢
        generalize V11.heap.size = b6 at HL ⊢
        have HSv := HS.out _ _ HL.out
        refine hK _ _ (fun _ => HSv) ?_
        try simp only [Act.put, List.setIfInBounds_toArray, List.set_cons_zero, List.set_cons_succ]
        refine wpAnyN_at 11 (v := ?vv56) rfl (by kernel_rfl) (by kernel_rfl) (by kernel_rfl) (fun _ _ _ h => h) ?hy56 HSv ?hh56
        case hy56 =>
          refine Or.inl ⟨by rfl, ?_⟩
          intro W hW
          obtain ⟨h0, h1, h2, h3, h4⟩ := hW
          go_simp
          try with_reducible rfl
        simp only [Act.put, List.setIfInBounds_toArray, List.set_cons_zero, List.set_cons_succ]
        refine wpAnyN_1 12 rfl (by kernel_rfl) ?_
        · intro K hK
          rw [if_pos (by rfl)]
          try go_simp
          have HL := Lib.hid (HL.out.alloc (.cells #[.slice none 0 0, .slice none 0 0, .slice none 0 0, .slice none 0 0, .int .i64 0, .int .i64 0, .int .i64 0, .int .i64 0] 31 (0, 0)))
          generalize V12.alloc (.cells #[.slice none 0 0, .slice none 0 0, .slice none 0 0, .slice none 0 0, .int .i64 0, .int .i64 0, .int .i64 0, .int .i64 0] 31 (0, 0)) = V13 at HL ⊢
          generalize V12.heap.size = b12 at HL ⊢
          have HSv := HS.out _ _ HL.out
          refine hK _ _ (fun _ => HSv) ?_
          try simp only [Act.put, List.setIfInBounds_toArray, List.set_cons_zero, List.set_cons_succ]
          refine wpAnyN_end 13 (by decide) rfl (by kernel_rfl) ?_
          simp only [List.drop_succ_cons, List.drop_zero]
          have y12 := (HL.out.get (b12, (.cells #[.slice none 0 0, .slice none 0 0, .slice none 0 0, .slice none 0 0, .int .i64 0, .int .i64 0, .int .i64 0, .int .i64 0] 31 (0, 0))) (by simp only [List.mem_cons, true_or, or_true])).2
          have z := fun o => fzOf y12 o
          have c0 := cellOf y12 0 _ rfl
          have c1 := cellOf y12 1 _ rfl
          have c2 := cellOf y12 2 _ rfl
          have c3 := cellOf y12 3 _ rfl
          have c4 := cellOf y12 4 _ rfl
          have c5 := cellOf y12 5 _ rfl
          have c6 := cellOf y12 6 _ rfl
          have c7 := cellOf y12 7 _ rfl
          go_wp2_with fail
          have hf := srv_fin HL.out.bl (HL.out.get (b12, (.cells #[.slice none 0 0, .slice none 0 0, .slice none 0 0, .slice none 0 0, .int .i64 0, .int .i64 0, .int .i64 0, .int .i64 0] 31 (0, 0))) (by simp only [List.mem_cons, true_or, or_true])) (HL.out.get (b3, (.cells #[.int .i64 3, .string own.s] 46 (0, 0))) (by simp only [List.mem_cons, true_or, or_true])) (HL.out.get (b6, (.cells #[.int .i64 3, .int .i64 4, .int .i64 vp, .int .i64 vp, .string peer.s] 43 (0, 0))) (by simp only [List.mem_cons, true_or, or_true])) cf tm fl wt
          show SrvQ _ _ _ _ _ _ _ _ _ _ _ _ _
          unfold SrvQ
          exact ⟨b12, b3, b6, hf.1, hf.2.1, hf.2.2.1, hf.2.2.2, rfl⟩
      · intro K hK
        rw [if_pos (by rfl)]
        try go_simp
        have HL := Lib.hid (HL.out.alloc (.cells #[.slice none 0 0, .slice none 0 0, .slice none 0 0, .slice none 0 0, .int .i64 0, .int .i64 0, .int .i64 0, .int .i64 0] 31 (0, 0)))
        generalize V11.alloc (.cells #[.slice none 0 0, .slice none 0 0, .slice none 0 0, .slice none 0 0, .int .i64 0, .int .i64 0, .int .i64 0, .int .i64 0] 31 (0, 0)) = V14 at HL ⊢
        generalize V11.heap.size = b12 at HL ⊢
        have HSv := HS.out _ _ HL.out
        refine hK _ _ (fun _ => HSv) ?_
        try simp only [Act.put, List.setIfInBounds_toArray, List.set_cons_zero, List.set_cons_succ]
        refine wpAnyN_1 6 rfl (by kernel_rfl) ?_
        · intro K hK
          rw [if_pos (by rfl)]
          try go_simp
          have HL := Lib.hid (HL.out.alloc (.cells #[.int .i64 3, .int .i64 4, .int .i64 vp, .int .i64 vp, .string peer.s] 43 (0, 0)))
          generalize V14.alloc (.cells #[.int .i64 3, .int .i64 4, .int .i64 vp, .int .i64 vp, .string peer.s] 43 (0, 0)) = V15 at HL ⊢
          generalize V14.heap.size = b6 at HL ⊢
          have HSv := HS.out _ _ HL.out
          refine hK _ _ (fun _ => HSv) ?_
          try simp only [Act.put, List.setIfInBounds_toArray, List.set_cons_zero, List.set_cons_succ]
          refine wpAnyN_at 11 (v := ?vv57) rfl (by kernel_rfl) (by kernel_rfl) (by kernel_rfl) (fun _ _ _ h => h) ?hy57 HSv ?hh57
          case hy57 =>
            refine Or.inl ⟨by rfl, ?_⟩
            intro W hW
            obtain ⟨h0, h1, h2, h3, h4⟩ := hW
            go_simp
            try with_reducible rfl
          simp only [Act.put, List.setIfInBounds_toArray, List.set_cons_zero, List.set_cons_succ]
          refine wpAnyN_end 13 (by decide) rfl (by kernel_rfl) ?_
          simp only [List.drop_succ_cons, List.drop_zero]
          have y12 := (HL.out.get (b12, (.cells #[.slice none 0 0, .slice none 0 0, .slice none 0 0, .slice none 0 0, .int .i64 0, .int .i64 0, .int .i64 0, .int .i64 0] 31 (0, 0))) (by simp only [List.mem_cons, true_or, or_true])).2
          have z := fun o => fzOf y12 o
          have c0 := cellOf y12 0 _ rfl
          have c1 := cellOf y12 1 _ rfl
          have c2 := cellOf y12 2 _ rfl
          have c3 := cellOf y12 3 _ rfl
          have c4 := cellOf y12 4 _ rfl
          have c5 := cellOf y12 5 _ rfl
          have c6 := cellOf y12 6 _ rfl
          have c7 := cellOf y12 7 _ rfl
          go_wp2_with fail
          have hf := srv_fin HL.out.bl (HL.out.get (b12, (.cells #[.slice none 0 0, .slice none 0 0, .slice none 0 0, .slice none 0 0, .int .i64 0, .int .i64 0, .int .i64 0, .int .i64 0] 31 (0, 0))) (by simp only [List.mem_cons, true_or, or_true])) (HL.out.get (b3, (.cells #[.int .i64 3, .string own.s] 46 (0, 0))) (by simp only [List.mem_cons, true_or, or_true])) (HL.out.get (b6, (.cells #[.int .i64 3, .int .i64 4, .int .i64 vp, .int .i64 vp, .string peer.s] 43 (0, 0))) (by simp only [List.mem_cons, true_or, or_true])) cf tm fl wt
          show SrvQ _ _ _ _ _ _ _ _ _ _ _ _ _
          unfold SrvQ
          exact ⟨b12, b3, b6, hf.1, hf.2.1, hf.2.2.1, hf.2.2.2, rfl⟩
    · intro K hK
      rw [if_pos (by rfl)]
      try go_simp
      have HL := Lib.hid (HL.out.alloc (.cells #[.int .i64 3, .int .i64 4, .int .i64 vp, .int .i64 vp, .string peer.s] 43 (0, 0)))
      generalize V10.alloc (.cells #[.int .i64 3, .int .i64 4, .int .i64 vp, .int .i64 vp, .string peer.s] 43 (0, 0)) = V16 at HL ⊢
      generalize V10.heap.size = b6 at HL ⊢
      have HSv := HS.out _ _ HL.out
      refine hK _ _ (fun _ => HSv) ?_
      try simp only [Act.put, List.setIfInBounds_toArray, List.set_cons_zero, List.set_cons_succ]
      refine wpAnyN_2 3 12 rfl rfl (by kernel_rfl) ?_ ?_
      · intro K hK
        rw [if_pos (by rfl)]
        try go_simp
        have HL := Lib.hid (HL.out.alloc (.cells #[.int .i64 3, .string own.s] 46 (0, 0)))
        generalize V16.alloc (.cells #[.int .i64 3, .string own.s] 46 (0, 0)) = V17 at HL ⊢
        generalize V16.heap.size = b3 at HL ⊢
        have HSv := HS.out _ _ HL.out
        refine hK _ _ (fun _ => HSv) ?_
        try simp only [Act.put, List.setIfInBounds_toArray, List.set_cons_zero, List.set_cons_succ]
        refine wpAnyN_at 11 (v := ?vv58) rfl (by kernel_rfl) (by kernel_rfl) (by kernel_rfl) (fun _ _ _ h => h) ?hy58 HSv ?hh58
        case hy58 =>
          refine Or.inl ⟨by rfl, ?_⟩
          intro W hW
          obtain ⟨h0, h1, h2, h3, h4⟩ := hW
          go_simp
          try with_reducible rfl
        simp only [Act.put, List.setIfInBounds_toArray, List.set_cons_zero, List.set_cons_succ]
        refine wpAnyN_1 12 rfl (by kernel_rfl) ?_
        · intro K hK
          rw [if_pos (by rfl)]
          try go_simp
          have HL := Lib.hid (HL.out.alloc (.cells #[.slice none 0 0, .slice none 0 0, .slice none 0 0, .slice none 0 0, .int .i64 0, .int .i64 0, .int .i64 0, .int .i64 0] 31 (0, 0)))
          generalize V17.alloc (.cells #[.slice none 0 0, .slice none 0 0, .slice none 0 0, .slice none 0 0, .int .i64 0, .int .i64 0, .int .i64 0, .int .i64 0] 31 (0, 0)) = V18 at HL ⊢
          generalize V17.heap.size = b12 at HL ⊢
          have HSv := HS.out _ _ HL.out
          refine hK _ _ (fun _ => HSv) ?_
          try simp only [Act.put, List.setIfInBounds_toArray, List.set_cons_zero, List.set_cons_succ]
          refine wpAnyN_end 13 (by decide) rfl (by kernel_rfl) ?_
          simp only [List.drop_succ_cons, List.drop_zero]
          have y12 := (HL.out.get (b12, (.cells #[.slice none 0 0, .slice none 0 0, .slice none 0 0, .slice none 0 0, .int .i64 0, .int .i64 0, .int .i64 0, .int .i64 0] 31 (0, 0))) (by simp only [List.mem_cons, true_or, or_true])).2
          have z := fun o => fzOf y12 o
          have c0 := cellOf y12 0 _ rfl
          have c1 := cellOf y12 1 _ rfl
          have c2 := cellOf y12 2 _ rfl
          have c3 := cellOf y12 3 _ rfl
          have c4 := cellOf y12 4 _ rfl
          have c5 := cellOf y12 5 _ rfl
          have c6 := cellOf y12 6 _ rfl
          have c7 := cellOf y12 7 _ rfl
          go_wp2_with fail
          have hf := srv_fin HL.out.bl (HL.out.get (b12, (.cells #[.slice none 0 0, .slice none 0 0, .slice none 0 0, .slice none 0 0, .int .i64 0, .int .i64 0, .int .i64 0, .int .i64 0] 31 (0, 0))) (by simp only [List.mem_cons, true_or, or_true])) (HL.out.get (b3, (.cells #[.int .i64 3, .string own.s] 46 (0, 0))) (by simp only [List.mem_cons, true_or, or_true])) (HL.out.get (b6, (.cells #[.int .i64 3, .int .i64 4, .int .i64 vp, .int .i64 vp, .string peer.s] 43 (0, 0))) (by simp only [List.mem_cons, true_or, or_true])) cf tm fl wt
          show SrvQ _ _ _ _ _ _ _ _ _ _ _ _ _
          unfold SrvQ
          exact ⟨b12, b3, b6, hf.1, hf.2.1, hf.2.2.1, hf.2.2.2, rfl⟩
      · intro K hK
        rw [if_pos (by rfl)]
        try go_simp
        have HL := Lib.hid (HL.out.alloc (.cells #[.slice none 0 0, .slice none 0 0, .slice none 0 0, .slice none 0 0, .int .i64 0, .int .i64 0, .int .i64 0, .int .i64 0] 31 (0, 0)))
        generalize V16.alloc (.cells #[.slice none 0 0, .slice none 0 0, .slice none 0 0, .slice none 0 0, .int .i64 0, .int .i64 0, .int .i64 0, .int .i64 0] 31 (0, 0)) = V19 at HL ⊢
        generalize V16.heap.size = b12 at HL ⊢
        have HSv := HS.out _ _ HL.out
        refine hK _ _ (fun _ => HSv) ?_
        try simp only [Act.put, List.setIfInBounds_toArray, List.set_cons_zero, List.set_cons_succ]
        refine wpAnyN_1 3 rfl (by kernel_rfl) ?_
        · intro K hK
          rw [if_pos (by rfl)]
          try go_simp
          have HL := Lib.hid (HL.out.alloc (.cells #[.int .i64 3, .string own.s] 46 (0, 0)))
          generalize V19.alloc (.cells #[.int .i64 3, .string own.s] 46 (0, 0)) = V20 at HL ⊢
          generalize V19.heap.size = b3 at HL ⊢
          have HSv := HS.out _ _ HL.out
          refine hK _ _ (fun _ => HSv) ?_
          try simp only [Act.put, List.setIfInBounds_toArray, List.set_cons_zero, List.set_cons_succ]
          refine wpAnyN_at 11 (v := ?vv59) rfl (by kernel_rfl) (by kernel_rfl) (by kernel_rfl) (fun _ _ _ h => h) ?hy59 HSv ?hh59
          case hy59 =>
            refine Or.inl ⟨by rfl, ?_⟩
            intro W hW
            obtain ⟨h0, h1, h2, h3, h4⟩ := hW
            go_simp
            try with_reducible rfl
          simp only [Act.put, List.setIfInBounds_toArray, List.set_cons_zero, List.set_cons_succ]
          refine wpAnyN_end 13 (by decide) rfl (by kernel_rfl) ?_
          simp only [List.drop_succ_cons, List.drop_zero]
          have y12 := (HL.out.get (b12, (.cells #[.slice none 0 0, .slice none 0 0, .slice none 0 0, .slice none 0 0, .int .i64 0, .int .i64 0, .int .i64 0, .int .i64 0] 31 (0, 0))) (by simp only [List.mem_cons, true_or, or_true])).2
          have z := fun o => fzOf y12 o
          have c0 := cellOf y12 0 _ rfl
          have c1 := cellOf y12 1 _ rfl
          have c2 := cellOf y12 2 _ rfl
          have c3 := cellOf y12 3 _ rfl
          have c4 := cellOf y12 4 _ rfl
          have c5 := cellOf y12 5 _ rfl
          have c6 := cellOf y12 6 _ rfl
          have c7 := cellOf y12 7 _ rfl
          go_wp2_with fail
          have hf := srv_fin HL.out.bl (HL.out.get (b12, (.cells #[.slice none 0 0, .slice none 0 0, .slice none 0 0, .slice none 0 0, .int .i64 0, .int .i64 0, .int .i64 0, .int .i64 0] 31 (0, 0))) (by simp only [List.mem_cons, true_or, or_true])) (HL.out.get (b3, (.cells #[.int .i64 3, .string own.s] 46 (0, 0))) (by simp only [List.mem_cons, true_or, or_true])) (HL.out.get (b6, (.cells #[.int .i64 3, .int .i64 4, .int .i64 vp, .int .i64 vp, .string peer.s] 43 (0, 0))) (by simp only [List.mem_cons, true_or, or_true])) cf tm fl wt
          show SrvQ _ _ _ _ _ _ _ _ _ _ _ _ _
          unfold SrvQ
          exact ⟨b12, b3, b6, hf.1, hf.2.1, hf.2.2.1, hf.2.2.2, rfl⟩
    · intro K hK
      rw [if_pos (by rfl)]
      try go_simp
      have HL := Lib.hid (HL.out.alloc (.cells #[.slice none 0 0, .slice none 0 0, .slice none 0 0, .slice none 0 0, .int .i64 0, .int .i64 0, .int .i64 0, .int .i64 0] 31 (0, 0)))
      generalize V10.alloc (.cells #[.slice none 0 0, .slice none 0 0, .slice none 0 0, .slice none 0 0, .int .i64 0, .int .i64 0, .int .i64 0, .int .i64 0] 31 (0, 0)) = V21 at HL ⊢
      generalize V10.heap.size = b12 at HL ⊢
      have HSv := HS.out _ _ HL.out
      refine hK _ _ (fun _ => HSv) ?_
      try simp only [Act.put, List.setIfInBounds_toArray, List.set_cons_zero, List.set_cons_succ]
      refine wpAnyN_2 3 6 rfl rfl (by kernel_rfl) ?_ ?_
      · intro K hK
        rw [if_pos (by rfl)]
        try go_simp
        have HL := Lib.hid (HL.out.alloc (.cells #[.int .i64 3, .string own.s] 46 (0, 0)))
        generalize V21.alloc (.cells #[.int .i64 3, .string own.s] 46 (0, 0)) = V22 at HL ⊢
        generalize V21.heap.size = b3 at HL ⊢
        have HSv := HS.out _ _ HL.out
        refine hK _ _ (fun _ => HSv) ?_
        try simp only [Act.put, List.setIfInBounds_toArray, List.set_cons_zero, List.set_cons_succ]
        refine wpAnyN_1 6 rfl (by kernel_rfl) ?_
        · intro K hK
          rw [if_pos (by rfl)]
          try go_simp
          have HL := Lib.hid (HL.out.alloc (.cells #[.int .i64 3, .int .i64 4, .int .i64 vp, .int .i64 vp, .string peer.s] 43 (0, 0)))
          generalize V22.alloc (.cells #[.int .i64 3, .int .i64 4, .int .i64 vp, .int .i64 vp, .string peer.s] 43 (0, 0)) = V23 at HL ⊢
          generalize V22.heap.size = b6 at HL ⊢
          have HSv := HS.out _ _ HL.out
          refine hK _ _ (fun _ => HSv) ?_
          try simp only [Act.put, List.setIfInBounds_toArray, List.set_cons_zero, List.set_cons_succ]
          refine wpAnyN_at 11 (v := ?vv60) rfl (by kernel_rfl) (by kernel_rfl) (by kernel_rfl) (fun _ _ _ h => h) ?hy60 HSv ?hh60
          case hy60 =>
            refine Or.inl ⟨by rfl, ?_⟩
            intro W hW
            obtain ⟨h0, h1, h2, h3, h4⟩ := hW
            go_simp
            try with_reducible rfl
          simp only [Act.put, List.setIfInBounds_toArray, List.set_cons_zero, List.set_cons_succ]
          refine wpAnyN_end 13 (by decide) rfl (by kernel_rfl) ?_
          simp only [List.drop_succ_cons, List.drop_zero]
          have y12 := (HL.out.get (b12, (.cells #[.slice none 0 0, .slice none 0 0, .slice none 0 0, .slice none 0 0, .int .i64 0, .int .i64 0, .int .i64 0, .int .i64 0] 31 (0, 0))) (by simp only [List.mem_cons, true_or, or_true])).2
          have z := fun o => fzOf y12 o
          have c0 := cellOf y12 0 _ rfl
          have c1 := cellOf y12 1 _ rfl
          have c2 := cellOf y12 2 _ rfl
          have c3 := cellOf y12 3 _ rfl
          have c4 := cellOf y12 4 _ rfl
          have c5 := cellOf y12 5 _ rfl
          have c6 := cellOf y12 6 _ rfl
          have c7 := cellOf y12 7 _ rfl
          go_wp2_with fail
          have hf := srv_fin HL.out.bl (HL.out.get (b12, (.cells #[.slice none 0 0, .slice none 0 0, .slice none 0 0, .slice none 0 0, .int .i64 0, .int .i64 0, .int .i64 0, .int .i64 0] 31 (0, 0))) (by simp only [List.mem_cons, true_or, or_true])) (HL.out.get (b3, (.cells #[.int .i64 3, .string own.s] 46 (0, 0))) (by simp only [List.mem_cons, true_or, or_true])) (HL.out.get (b6, (.cells #[.int .i64 3, .int .i64 4, .int .i64 vp, .int .i64 vp, .string peer.s] 43 (0, 0))) (by simp only [List.mem_cons, true_or, or_true])) cf tm fl wt
          show SrvQ _ _ _ _ _ _ _ _ _ _ _ _ _
          unfold SrvQ
          exact ⟨b12, b3, b6, hf.1, hf.2.1, hf.2.2.1, hf.2.2.2, rfl⟩
      · intro K hK
        rw [if_pos (by rfl)]
        try go_simp
        have HL := Lib.hid (HL.out.alloc (.cells #[.int .i64 3, .int .i64 4, .int .i64 vp, .int .i64 vp, .string peer.s] 43 (0, 0)))
        generalize V21.alloc (.cells #[.int .i64 3, .int .i64 4, .int .i64 vp, .int .i64 vp, .string peer.s] 43 (0, 0)) = V24 at HL ⊢
        generalize V21.heap.size = b6 at HL ⊢
        have HSv := HS.out _ _ HL.out
        refine hK _ _ (fun _ => HSv) ?_
        try simp only [Act.put, List.setIfInBounds_toArray, List.set_cons_zero, List.set_cons_succ]
        refine wpAnyN_1 3 rfl (by kernel_rfl) ?_
        · intro K hK
          rw [if_pos (by rfl)]
          try go_simp
          have HL := Lib.hid (HL.out.alloc (.cells #[.int .i64 3, .string own.s] 46 (0, 0)))
          generalize V24.alloc (.cells #[.int .i64 3, .string own.s] 46 (0, 0)) = V25 at HL ⊢
          generalize V24.heap.size = b3 at HL ⊢
          have HSv := HS.out _ _ HL.out
          refine hK _ _ (fun _ => HSv) ?_
          try simp only [Act.put, List.setIfInBounds_toArray, List.set_cons_zero, List.set_cons_succ]
          refine wpAnyN_at 11 (v := ?vv61) rfl (by kernel_rfl) (by kernel_rfl) (by kernel_rfl) (fun _ _ _ h => h) ?hy61 HSv ?hh61
          case hy61 =>
            refine Or.inl ⟨by rfl, ?_⟩
            intro W hW
            obtain ⟨h0, h1, h2, h3, h4⟩ := hW
            go_simp
            try with_reducible rfl
          simp only [Act.put, List.setIfInBounds_toArray, List.set_cons_zero, List.set_cons_succ]
          refine wpAnyN_end 13 (by decide) rfl (by kernel_rfl) ?_
          simp only [List.drop_succ_cons, List.drop_zero]
          have y12 := (HL.out.get (b12, (.cells #[.slice none 0 0, .slice none 0 0, .slice none 0 0, .slice none 0 0, .int .i64 0, .int .i64 0, .int .i64 0, .int .i64 0] 31 (0, 0))) (by simp only [List.mem_cons, true_or, or_true])).2
          have z := fun o => fzOf y12 o
          have c0 := cellOf y12 0 _ rfl
          have c1 := cellOf y12 1 _ rfl
          have c2 := cellOf y12 2 _ rfl
          have c3 := cellOf y12 3 _ rfl
          have c4 := cellOf y12 4 _ rfl
          have c5 := cellOf y12 5 _ rfl
          have c6 := cellOf y12 6 _ rfl
          have c7 := cellOf y12 7 _ rfl
          go_wp2_with fail
          have hf := srv_fin HL.out.bl (HL.out.get (b12, (.cells #[.slice none 0 0, .slice none 0 0, .slice none 0 0, .slice none 0 0, .int .i64 0, .int .i64 0, .int .i64 0, .int .i64 0] 31 (0, 0))) (by simp only [List.mem_cons, true_or, or_true])) (HL.out.get (b3, (.cells #[.int .i64 3, .string own.s] 46 (0, 0))) (by simp only [List.mem_cons, true_or, or_true])) (HL.out.get (b6, (.cells #[.int .i64 3, .int .i64 4, .int .i64 vp, .int .i64 vp, .string peer.s] 43 (0, 0))) (by simp only [List.mem_cons, true_or, or_true])) cf tm fl wt
          show SrvQ _ _ _ _ _ _ _ _ _ _ _ _ _
          unfold SrvQ
          exact ⟨b12, b3, b6, hf.1, hf.2.1, hf.2.2.1, hf.2.2.2, rfl⟩
  · intro K hK
    rw [if_pos (by rfl)]
    try go_simp
    have HL := Lib.hid (HL.out.alloc (.cells #[.slice none 0 0, .slice none 0 0, .slice none 0 0, .slice none 0 0, .int .i64 0, .int .i64 0, .int .i64 0, .int .i64 0] 31 (0, 0)))
    generalize V0.alloc (.cells #[.slice none 0 0, .slice none 0 0, .slice none 0 0, .slice none 0 0, .int .i64 0, .int .i64 0, .int .i64 0, .int .i64 0] 31 (0, 0)) = V26 at HL ⊢
    generalize V0.heap.size = b12 at HL ⊢
    have HSv := HS.out _ _ HL.out
    refine hK _ _ (fun _ => HSv) ?_
    try simp only [Act.put, List.setIfInBounds_toArray, List.set_cons_zero, List.set_cons_succ]
    refine wpAnyN_2 3 5 rfl rfl (by kernel_rfl) ?_ ?_
    · intro K hK
      rw [if_pos (by rfl)]
      try go_simp
      have HL := Lib.hid (HL.out.alloc (.cells #[.int .i64 3, .string own.s] 46 (0, 0)))
      generalize V26.alloc (.cells #[.int .i64 3, .string own.s] 46 (0, 0)) = V27 at HL ⊢
      generalize V26.heap.size = b3 at HL ⊢
      have HSv := HS.out _ _ HL.out
      refine hK _ _ (fun _ => HSv) ?_
      try simp only [Act.put, List.setIfInBounds_toArray, List.set_cons_zero, List.set_cons_succ]
      refine wpAnyN_1 5 rfl (by kernel_rfl) ?_
      · intro K hK
        rw [if_pos (by rfl)]
        try go_simp
        go_at_call 43
        refine (HJ.out _).mono ?_
        rintro e V28 ⟨rfl, hb⟩
        have HL := Lib.hid (HL.out.go hb)
        clear hb
        have HSv := HS.out _ _ HL.out
        refine hK _ _ (fun _ => HSv) ?_
        try simp only [Act.put, List.setIfInBounds_toArray, List.set_cons_zero, List.set_cons_succ]
        refine wpAnyN_1 6 rfl (by kernel_rfl) ?_
        · intro K hK
          rw [if_pos (by rfl)]
          try go_simp
          have HL := Lib.hid (HL.out.alloc (.cells #[.int .i64 3, .int .i64 4, .int .i64 vp, .int .i64 vp, .string peer.s] 43 (0, 0)))
          generalize V28.alloc (.cells #[.int .i64 3, .int .i64 4, .int .i64 vp, .int .i64 vp, .string peer.s] 43 (0, 0)) = V29 at HL ⊢
          generalize V28.heap.size = b6 at HL ⊢
          have HSv := HS.out _ _ HL.out
          refine hK _ _ (fun _ => HSv) ?_
          try simp only [Act.put, List.setIfInBounds_toArray, List.set_cons_zero, List.set_cons_succ]
          refine wpAnyN_at 11 (v := ?vv62) rfl (by kernel_rfl) (by kernel_rfl) (by kernel_rfl) (fun _ _ _ h => h) ?hy62 HSv ?hh62
          case hy62 =>
            refine Or.inl ⟨by rfl, ?_⟩
            intro W hW
            obtain ⟨h0, h1, h2, h3, h4⟩ := hW
            go_simp
            try with_reducible rfl
          simp only [Act.put, List.setIfInBounds_toArray, List.set_cons_zero, List.set_cons_succ]
          refine wpAnyN_end 13 (by decide) rfl (by kernel_rfl) ?_
          simp only [List.drop_succ_cons, List.drop_zero]
          have y12 := (HL.out.get (b12, (.cells #[.slice none 0 0, .slice none 0 0, .slice none 0 0, .slice none 0 0, .int .i64 0, .int .i64 0, .int .i64 0, .int .i64 0] 31 (0, 0))) (by simp only [List.mem_cons, true_or, or_true])).2
          have z := fun o => fzOf y12 o
          have c0 := cellOf y12 0 _ rfl
          have c1 := cellOf y12 1 _ rfl
          have c2 := cellOf y12 2 _ rfl
          have c3 := cellOf y12 3 _ rfl
          have c4 := cellOf y12 4 _ rfl
          have c5 := cellOf y12 5 _ rfl
          have c6 := cellOf y12 6 _ rfl
          have c7 := cellOf y12 7 _ rfl
          go_wp2_with fail
          have hf := srv_fin HL.out.bl (HL.out.get (b12, (.cells #[.slice none 0 0, .slice none 0 0, .slice none 0 0, .slice none 0 0, .int .i64 0, .int .i64 0, .int .i64 0, .int .i64 0] 31 (0, 0))) (by simp only [List.mem_cons, true_or, or_true])) (HL.out.get (b3, (.cells #[.int .i64 3, .string own.s] 46 (0, 0))) (by simp only [List.mem_cons, true_or, or_true])) (HL.out.get (b6, (.cells #[.int .i64 3, .int .i64 4, .int .i64 vp, .int .i64 vp, .string peer.s] 43 (0, 0))) (by simp only [List.mem_cons, true_or, or_true])) cf tm fl wt
          show SrvQ _ _ _ _ _ _ _ _ _ _ _ _ _
          unfold SrvQ
          exact ⟨b12, b3, b6, hf.1, hf.2.1, hf.2.2.1, hf.2.2.2, rfl⟩
    · intro K hK
      rw [if_pos (by rfl)]
      try go_simp
      go_at_call 43
      refine (HJ.out _).mono ?_
      rintro e V30 ⟨rfl, hb⟩
      have HL := Lib.hid (HL.out.go hb)
      clear hb
      have HSv := HS.out _ _ HL.out
      refine hK _ _ (fun _ => HSv) ?_
      try simp only [Act.put, List.setIfInBounds_toArray, List.set_cons_zero, List.set_cons_succ]
      refine wpAnyN_2 3 6 rfl rfl (by kernel_rfl) ?_ ?_
      · intro K hK
        rw [if_pos (by rfl)]
        try go_simp
        have HL := Lib.hid (HL.out.alloc (.cells #[.int .i64 3, .string own.s] 46 (0, 0)))
        generalize V30.alloc (.cells #[.int .i64 3, .string own.s] 46 (0, 0)) = V31 at HL ⊢
        generalize V30.heap.size = b3 at HL ⊢
        have HSv := HS.out _ _ HL.out
        refine hK _ _ (fun _ => HSv) ?_
        try simp only [Act.put, List.setIfInBounds_toArray, List.set_cons_zero, List.set_cons_succ]
        refine wpAnyN_1 6 rfl (by kernel_rfl) ?_
        · intro K hK
          rw [if_pos (by rfl)]
          try go_simp
          have HL := Lib.hid (HL.out.alloc (.cells #[.int .i64 3, .int .i64 4, .int .i64 vp, .int .i64 vp, .string peer.s] 43 (0, 0)))
          generalize V31.alloc (.cells #[.int .i64 3, .int .i64 4, .int .i64 vp, .int .i64 vp, .string peer.s] 43 (0, 0)) = V32 at HL ⊢
          generalize V31.heap.size = b6 at HL ⊢
          have HSv := HS.out _ _ HL.out
          refine hK _ _ (fun _ => HSv) ?_
          try simp only [Act.put, List.setIfInBounds_toArray, List.set_cons_zero, List.set_cons_succ]
          refine wpAnyN_at 11 (v := ?vv63) rfl (by kernel_rfl) (by kernel_rfl) (by kernel_rfl) (fun _ _ _ h => h) ?hy63 HSv ?hh63
          case hy63 =>
            refine Or.inl ⟨by rfl, ?_⟩
            intro W hW
            obtain ⟨h0, h1, h2, h3, h4⟩ := hW
            go_simp
            try with_reducible rfl
          simp only [Act.put, List.setIfInBounds_toArray, List.set_cons_zero, List.set_cons_succ]
          refine wpAnyN_end 13 (by decide) rfl (by kernel_rfl) ?_
          simp only [List.drop_succ_cons, List.drop_zero]
          have y12 := (HL.out.get (b12, (.cells #[.slice none 0 0, .slice none 0 0, .slice none 0 0, .slice none 0 0, .int .i64 0, .int .i64 0, .int .i64 0, .int .i64 0] 31 (0, 0))) (by simp only [List.mem_cons, true_or, or_true])).2
          have z := fun o => fzOf y12 o
          have c0 := cellOf y12 0 _ rfl
          have c1 := cellOf y12 1 _ rfl
          have c2 := cellOf y12 2 _ rfl
          have c3 := cellOf y12 3 _ rfl
          have c4 := cellOf y12 4 _ rfl
          have c5 := cellOf y12 5 _ rfl
          have c6 := cellOf y12 6 _ rfl
          have c7 := cellOf y12 7 _ rfl
          go_wp2_with fail
          have hf := srv_fin HL.out.bl (HL.out.get (b12, (.cells #[.slice none 0 0, .slice none 0 0, .slice none 0 0, .slice none 0 0, .int .i64 0, .int .i64 0, .int .i64 0, .int .i64 0] 31 (0, 0))) (by simp only [List.mem_cons, true_or, or_true])) (HL.out.get (b3, (.cells #[.int .i64 3, .string own.s] 46 (0, 0))) (by simp only [List.mem_cons, true_or, or_true])) (HL.out.get (b6, (.cells #[.int .i64 3, .int .i64 4, .int .i64 vp, .int .i64 vp, .string peer.s] 43 (0, 0))) (by simp only [List.mem_cons, true_or, or_true])) cf tm fl wt
          show SrvQ _ _ _ _ _ _ _ _ _ _ _ _ _
          unfold SrvQ
          exact ⟨b12, b3, b6, hf.1, hf.2.1, hf.2.2.1, hf.2.2.2, rfl⟩
      · intro K hK
        rw [if_pos (by rfl)]
        try go_simp
        have HL := Lib.hid (HL.out.alloc (.cells #[.int .i64 3, .int .i64 4, .int .i64 vp, .int .i64 vp, .string peer.s] 43 (0, 0)))
        generalize V30.alloc (.cells #[.int .i64 3, .int .i64 4, .int .i64 vp, .int .i64 vp, .string peer.s] 43 (0, 0)) = V33 at HL ⊢
        generalize V30.heap.size = b6 at HL ⊢
        have HSv := HS.out _ _ HL.out
        refine hK _ _ (fun _ => HSv) ?_
        try simp only [Act.put, List.setIfInBounds_toArray, List.set_cons_zero, List.set_cons_succ]
        refine wpAnyN_1 3 rfl (by kernel_rfl) ?_
        · intro K hK
          rw [if_pos (by rfl)]
          try go_simp
          have HL := Lib.hid (HL.out.alloc (.cells #[.int .i64 3, .string own.s] 46 (0, 0)))
          generalize V33.alloc (.cells #[.int .i64 3, .string own.s] 46 (0, 0)) = V34 at HL ⊢
          generalize V33.heap.size = b3 at HL ⊢
          have HSv := HS.out _ _ HL.out
          refine hK _ _ (fun _ => HSv) ?_
          try simp only [Act.put, List.setIfInBounds_toArray, List.set_cons_zero, List.set_cons_succ]
          refine wpAnyN_at 11 (v := ?vv64) rfl (by kernel_rfl) (by kernel_rfl) (by kernel_rfl) (fun _ _ _ h => h) ?hy64 HSv ?hh64
          case hy64 =>
            refine Or.inl ⟨by rfl, ?_⟩
            intro W hW
            obtain ⟨h0, h1, h2, h3, h4⟩ := hW
            go_simp
            try with_reducible rfl
          simp only [Act.put, List.setIfInBounds_toArray, List.set_cons_zero, List.set_cons_succ]
          refine wpAnyN_end 13 (by decide) rfl (by kernel_rfl) ?_
          simp only [List.drop_succ_cons, List.drop_zero]
          have y12 := (HL.out.get (b12, (.cells #[.slice none 0 0, .slice none 0 0, .slice none 0 0, .slice none 0 0, .int .i64 0, .int .i64 0, .int .i64 0, .int .i64 0] 31 (0, 0))) (by simp only [List.mem_cons, true_or, or_true])).2
          have z := fun o => fzOf y12 o
          have c0 := cellOf y12 0 _ rfl
          have c1 := cellOf y12 1 _ rfl
          have c2 := cellOf y12 2 _ rfl
          have c3 := cellOf y12 3 _ rfl
          have c4 := cellOf y12 4 _ rfl
          have c5 := cellOf y12 5 _ rfl
          have c6 := cellOf y12 6 _ rfl
          have c7 := cellOf y12 7 _ rfl
          go_wp2_with fail
          have hf := srv_fin HL.out.bl (HL.out.get (b12, (.cells #[.slice none 0 0, .slice none 0 0, .slice none 0 0, .slice none 0 0, .int .i64 0, .int .i64 0, .int .i64 0, .int .i64 0] 31 (0, 0))) (by simp only [List.mem_cons, true_or, or_true])) (HL.out.get (b3, (.cells #[.int .i64 3, .string own.s] 46 (0, 0))) (by simp only [List.mem_cons, true_or, or_true])) (HL.out.get (b6, (.cells #[.int .i64 3, .int .i64 4, .int .i64 vp, .int .i64 vp, .string peer.s] 43 (0, 0))) (by simp only [List.mem_cons, true_or, or_true])) cf tm fl wt
          show SrvQ _ _ _ _ _ _ _ _ _ _ _ _ _
          unfold SrvQ
          exact ⟨b12, b3, b6, hf.1, hf.2.1, hf.2.2.1, hf.2.2.2, rfl⟩
  · intro e a' w' h
    cases e <;> first | exact h.elim | skip
    obtain ⟨sb, ob, rb, hz, hs, ho, hr, rfl⟩ := h
    simp only [Exit.then]
    have I0 := Lib.hid (SrvQ.inv HB.out hz hs ho hr)
    clear hz hs ho hr HJ HS HB
    generalize Value.slice (some ⟨ob, 0, none⟩) 1 1 = ov0 at I0
    have q0 := cellOf I0.out.x2 0 (.int .u8 (d1.a.toNat : Int)) rfl
    have q1 := cellOf I0.out.x2 1 (.int .u8 (d1.b.toNat : Int)) rfl
    have q2 := cellOf I0.out.x2 2 (.int .u8 (d1.c.toNat : Int)) rfl
    have q3 := cellOf I0.out.x2 3 (.int .u8 (d1.d.toNat : Int)) rfl
    have p0 := cellOf I0.out.x3 0 (.int .u8 (d2.a.toNat : Int)) rfl
    have p1 := cellOf I0.out.x3 1 (.int .u8 (d2.b.toNat : Int)) rfl
    have p2 := cellOf I0.out.x3 2 (.int .u8 (d2.c.toNat : Int)) rfl
    have p3 := cellOf I0.out.x3 3 (.int .u8 (d2.d.toNat : Int)) rfl
    have s0 := cellOf I0.out.sbk 0 _ rfl
    have s1 := cellOf I0.out.sbk 1 _ rfl
    have s2 := cellOf I0.out.sbk 2 _ rfl
    have s3 := cellOf I0.out.sbk 3 _ rfl
    have s4 := cellOf I0.out.sbk 4 _ rfl
    have s5 := cellOf I0.out.sbk 5 _ rfl
    have s6 := cellOf I0.out.sbk 6 _ rfl
    have s7 := cellOf I0.out.sbk 7 _ rfl
    cases y1 with
    | true =>
      cases y2 with
      | true =>
        have hI := I0.out
        have hP : Rls _ (fun b => w.heap.size ≤ b) _ ([⟨3, 4, vp, vp, peer.s⟩]) := Rec.mono (hI.rrow.rls (by unfold maxLen; simp)) (fun b hb => by have hb : w.heap.size + 1 + 1 + 1 + 1 ≤ b := hb; omega)
        have hN := new_at [⟨3, own.s⟩] [] [⟨3, 4, vp, vp, peer.s⟩] [] _ _ _ _ (fun b => w.heap.size ≤ b) cf tm fl wt _ (hI.orow.opts (show 1 ≤ maxLen by decide)) (Rec.nil _ _ _) hP (Rec.nil _ _ _) (fun n c h => by cases h; rfl) (fun n c h => by have hR := hI.rrow; rw [h] at hR; exact hR.nil0) (by decide) (by simp) (by decide) (inB20_true.2 HA.out.1) (inB20_true.2 HA.out.2.1) HA.out.2.2.1.1 HA.out.2.2.1.2 HA.out.2.2.2.1 HA.out.2.2.2.2 (fun o ho => by simp only [List.mem_singleton] at ho; subst ho; show 4 ≤ 100000; decide) rfl rfl (by rw [List.nil_append]; have := HW.out.2.1; rw [HR.out] at this; exact this) (by rw [List.nil_append]; have := HW.out.2.2; rw [HR.out] at this; exact this)
        have HN := Lib.hid hN
        have HBL := Lib.hid hI.bl
        clear hN hI hP
        try go_wp2_with fail
        refine HN.out.mono ?_
        rintro e w9 ⟨v, rfl, B, jb, rfl, h1, h2, h3, h4, h5⟩
        have H9 := Lib.hid (And.intro h1 (And.intro h2 (And.intro h3 (And.intro h4 h5))))
        clear h1 h2 h3 h4 h5
        go_wp2_with fail
        go_ret2
        rw [HR.out]
        have hsz := HBL.out.size
        exact ⟨_, rfl, B, jb, rfl, H9.out.1.mono (fun b hb => Nat.le_trans hsz hb), H9.out.2.1, Nat.le_trans hsz H9.out.2.2.1, H9.out.2.2.2.1, HBL.out.trans (H9.out.2.2.2.2.mono hsz)⟩
      | false =>
        go_wp2_with fail
        refine wp_region_H (rgH 1 5) (fun X : World => X.cell? ⟨sb, 2, none⟩ = some (.slice (some ⟨rb, 0, none⟩) 1 1)) (by kernel_rfl) ?_
        have HSv : (fun X : World => X.cell? ⟨sb, 2, none⟩ = some (.slice (some ⟨rb, 0, none⟩) 1 1)) w'.drew := s2
        refine wpAnyH_pure 0 (v := ?vv65) rfl (by kernel_rfl) (by kernel_rfl) (by kernel_rfl) (fun _ _ _ h => h) ?hy65 ?hh65
        case hy65 =>
          refine Or.inl ⟨by rfl, ?_⟩
          intro W _
          go_simp
          try with_reducible rfl
        simp only [Act.put, List.setIfInBounds_toArray, List.set_cons_zero, List.set_cons_succ]
        refine wpAnyH_at 1 (v := ?vv66) rfl (by kernel_rfl) (by kernel_rfl) (by kernel_rfl) (fun _ _ _ h => h) ?hy66 HSv ?hh66
        case hy66 =>
          refine Or.inl ⟨by rfl, ?_⟩
          intro W hW
          obtain h0 := hW
          go_simp
          try with_reducible rfl
        simp only [Act.put, List.setIfInBounds_toArray, List.set_cons_zero, List.set_cons_succ]
        refine wpAnyH_1 2 rfl (by kernel_rfl) ?_
        intro K hK
        rw [if_pos (by rfl)]
        try go_simp
        refine hK _ _ (fun _ => HSv) ?_
        try simp only [Act.put, List.setIfInBounds_toArray, List.set_cons_zero, List.set_cons_succ]
        clear HSv s0 s1 s2 s3 s4 s5 s6 s7 p0 p1 p2 p3 q0 q1 q2 q3
        refine wpAnyH_1 3 rfl (by kernel_rfl) ?_
        intro K hK
        rw [if_pos (by rfl)]
        try go_simp
        go_at_call 43
        refine (HJ2.out _).mono ?_
        rintro e U2 ⟨rfl, hb⟩
        have J2 := Lib.hid ((I0.out.go (Below.refl _ _).drew).go hb)
        have HSv : (fun X : World => X.cell? ⟨sb, 2, none⟩ = some (.slice (some ⟨rb, 0, none⟩) 1 1)) U2 := cellOf J2.out.sbk 2 _ rfl
        clear hb
        refine hK _ _ (fun _ => HSv) ?_
        try simp only [Act.put, List.setIfInBounds_toArray, List.set_cons_zero, List.set_cons_succ]
        refine wpAnyH_1 4 rfl (by kernel_rfl) ?_
        intro K hK
        rw [if_pos (by rfl)]
        try go_simp
        have K2 := Lib.hid (J2.out.go ((Below.refl _ _).alloc (Nat.le_refl _) (.cells #[.int .i64 131, .int .i64 4, .int .i64 vp2, .int .i64 vp2, .string d2.s] 43 (0, 0))))
        have HN2 := Lib.hid (at1 U2 (.cells #[.int .i64 131, .int .i64 4, .int .i64 vp2, .int .i64 vp2, .string d2.s] 43 (0, 0)))
        have HSv : (fun X : World => X.cell? ⟨sb, 2, none⟩ = some (.slice (some ⟨rb, 0, none⟩) 1 1)) (U2.alloc (.cells #[.int .i64 131, .int .i64 4, .int .i64 vp2, .int .i64 vp2, .string d2.s] 43 (0, 0))) := cellOf K2.out.sbk 2 _ rfl
        refine hK _ _ (fun _ => HSv) ?_
        try simp only [Act.put, List.setIfInBounds_toArray, List.set_cons_zero, List.set_cons_succ]
        refine wpAnyH_end 5 (fun j hj => rgH_end _ _ j (by omega)) (by rfl) (by kernel_rfl) ?_
        simp only [List.drop_succ_cons, List.drop_zero]
        go_wp2_with (first
          | (at_builtin; refine wpl_append_rules rfl _ _ rfl _ ([⟨3, 4, vp, vp, peer.s⟩]) rfl K2.out.rrow _ [⟨131, 4, vp2, vp2, d2.s⟩] rfl ((RRow.one ⟨131, 4, vp2, vp2, d2.s⟩ HN2.out (Nat.le_refl _)).rls (show 1 ≤ maxLen by decide)) (by intro n c h; cases h) (by simp) (by have := (Array.getElem?_eq_some_iff.1 K2.out.sbk).1; have := K2.out.hsb; omega) ?_
             intro pv2 T2 r5 k5 o5
             obtain ⟨ra2, rc2, rfl⟩ := r5.form
             have r5 : RRow T2 _ (.slice ra2 2 rc2) ([⟨3, 4, vp, vp, peer.s⟩] ++ [⟨131, 4, vp2, vp2, d2.s⟩]) := r5
             have o5 : (Value.ownBlock (.slice ra2 2 rc2) = _ ∨ _) := o5
             have I2 := Lib.hid (K2.out.app k5 r5 o5)
             have y4 := (k5.block sb (Array.getElem?_eq_some_iff.1 K2.out.sbk).1 (fun he => K2.out.ne1 sb he rfl)).trans K2.out.sbk
             have u2 := cellOf y4 2 _ rfl
             have f2 := fun o => fzOf y4 o
             have s0 := cellOf I2.out.sbk 0 _ rfl
             have s1 := cellOf I2.out.sbk 1 _ rfl
             have s2 := cellOf I2.out.sbk 2 _ rfl
             have s3 := cellOf I2.out.sbk 3 _ rfl
             have s4 := cellOf I2.out.sbk 4 _ rfl
             have s5 := cellOf I2.out.sbk 5 _ rfl
             have s6 := cellOf I2.out.sbk 6 _ rfl
             have s7 := cellOf I2.out.sbk 7 _ rfl
             clear r5 k5 o5 y4))
        have hI := I2.out
        have hP : Rls _ (fun b => w.heap.size ≤ b) _ (([⟨3, 4, vp, vp, peer.s⟩] ++ [⟨131, 4, vp2, vp2, d2.s⟩])) := Rec.mono (hI.rrow.rls (by unfold maxLen; simp)) (fun b hb => by have hb : w.heap.size + 1 + 1 + 1 + 1 ≤ b := hb; omega)
        have hN := new_at [⟨3, own.s⟩] [] ([⟨3, 4, vp, vp, peer.s⟩] ++ [⟨131, 4, vp2, vp2, d2.s⟩]) [] _ _ _ _ (fun b => w.heap.size ≤ b) cf tm fl wt _ (hI.orow.opts (show 1 ≤ maxLen by decide)) (Rec.nil _ _ _) hP (Rec.nil _ _ _) (fun n c h => by cases h; rfl) (fun n c h => by have hR := hI.rrow; rw [h] at hR; exact hR.nil0) (by decide) (by simp) (by decide) (inB20_true.2 HA.out.1) (inB20_true.2 HA.out.2.1) HA.out.2.2.1.1 HA.out.2.2.1.2 HA.out.2.2.2.1 HA.out.2.2.2.2 (fun o ho => by simp only [List.mem_singleton] at ho; subst ho; show 4 ≤ 100000; decide) rfl rfl (by rw [List.nil_append]; have := HW.out.2.1; rw [HR.out] at this; exact this) (by rw [List.nil_append]; have := HW.out.2.2; rw [HR.out] at this; exact this)
        have HN := Lib.hid hN
        have HBL := Lib.hid hI.bl
        clear hN hI hP
        try go_wp2_with fail
        refine HN.out.mono ?_
        rintro e w9 ⟨v, rfl, B, jb, rfl, h1, h2, h3, h4, h5⟩
        have H9 := Lib.hid (And.intro h1 (And.intro h2 (And.intro h3 (And.intro h4 h5))))
        clear h1 h2 h3 h4 h5
        go_wp2_with fail
        go_ret2
        rw [HR.out]
        have hsz := HBL.out.size
        exact ⟨_, rfl, B, jb, rfl, H9.out.1.mono (fun b hb => Nat.le_trans hsz hb), H9.out.2.1, Nat.le_trans hsz H9.out.2.2.1, H9.out.2.2.2.1, HBL.out.trans (H9.out.2.2.2.2.mono hsz)⟩
    | false =>
      cases y2 with
      | true =>
        go_wp2_with fail
        refine wp_region_H (rgH 1 5) (fun X : World => X.cell? ⟨sb, 2, none⟩ = some (.slice (some ⟨rb, 0, none⟩) 1 1)) (by kernel_rfl) ?_
        have HSv : (fun X : World => X.cell? ⟨sb, 2, none⟩ = some (.slice (some ⟨rb, 0, none⟩) 1 1)) w'.drew := s2
        refine wpAnyH_pure 0 (v := ?vv67) rfl (by kernel_rfl) (by kernel_rfl) (by kernel_rfl) (fun _ _ _ h => h) ?hy67 ?hh67
        case hy67 =>
          refine Or.inl ⟨by rfl, ?_⟩
          intro W _
          go_simp
          try with_reducible rfl
        simp only [Act.put, List.setIfInBounds_toArray, List.set_cons_zero, List.set_cons_succ]
        refine wpAnyH_at 1 (v := ?vv68) rfl (by kernel_rfl) (by kernel_rfl) (by kernel_rfl) (fun _ _ _ h => h) ?hy68 HSv ?hh68
        case hy68 =>
          refine Or.inl ⟨by rfl, ?_⟩
          intro W hW
          obtain h0 := hW
          go_simp
          try with_reducible rfl
        simp only [Act.put, List.setIfInBounds_toArray, List.set_cons_zero, List.set_cons_succ]
        refine wpAnyH_1 2 rfl (by kernel_rfl) ?_
        intro K hK
        rw [if_pos (by rfl)]
        try go_simp
        refine hK _ _ (fun _ => HSv) ?_
        try simp only [Act.put, List.setIfInBounds_toArray, List.set_cons_zero, List.set_cons_succ]
        clear HSv s0 s1 s2 s3 s4 s5 s6 s7 p0 p1 p2 p3 q0 q1 q2 q3
        refine wpAnyH_1 3 rfl (by kernel_rfl) ?_
        intro K hK
        rw [if_pos (by rfl)]
        try go_simp
        go_at_call 43
        refine (HJ1.out _).mono ?_
        rintro e U1 ⟨rfl, hb⟩
        have J1 := Lib.hid ((I0.out.go (Below.refl _ _).drew).go hb)
        have HSv : (fun X : World => X.cell? ⟨sb, 2, none⟩ = some (.slice (some ⟨rb, 0, none⟩) 1 1)) U1 := cellOf J1.out.sbk 2 _ rfl
        clear hb
        refine hK _ _ (fun _ => HSv) ?_
        try simp only [Act.put, List.setIfInBounds_toArray, List.set_cons_zero, List.set_cons_succ]
        refine wpAnyH_1 4 rfl (by kernel_rfl) ?_
        intro K hK
        rw [if_pos (by rfl)]
        try go_simp
        have K1 := Lib.hid (J1.out.go ((Below.refl _ _).alloc (Nat.le_refl _) (.cells #[.int .i64 129, .int .i64 4, .int .i64 vp1, .int .i64 vp1, .string d1.s] 43 (0, 0))))
        have HN1 := Lib.hid (at1 U1 (.cells #[.int .i64 129, .int .i64 4, .int .i64 vp1, .int .i64 vp1, .string d1.s] 43 (0, 0)))
        have HSv : (fun X : World => X.cell? ⟨sb, 2, none⟩ = some (.slice (some ⟨rb, 0, none⟩) 1 1)) (U1.alloc (.cells #[.int .i64 129, .int .i64 4, .int .i64 vp1, .int .i64 vp1, .string d1.s] 43 (0, 0))) := cellOf K1.out.sbk 2 _ rfl
        refine hK _ _ (fun _ => HSv) ?_
        try simp only [Act.put, List.setIfInBounds_toArray, List.set_cons_zero, List.set_cons_succ]
        refine wpAnyH_end 5 (fun j hj => rgH_end _ _ j (by omega)) (by rfl) (by kernel_rfl) ?_
        simp only [List.drop_succ_cons, List.drop_zero]
        go_wp2_with (first
          | (at_builtin; refine wpl_append_rules rfl _ _ rfl _ ([⟨3, 4, vp, vp, peer.s⟩]) rfl K1.out.rrow _ [⟨129, 4, vp1, vp1, d1.s⟩] rfl ((RRow.one ⟨129, 4, vp1, vp1, d1.s⟩ HN1.out (Nat.le_refl _)).rls (show 1 ≤ maxLen by decide)) (by intro n c h; cases h) (by simp) (by have := (Array.getElem?_eq_some_iff.1 K1.out.sbk).1; have := K1.out.hsb; omega) ?_
             intro pv1 T1 r5 k5 o5
             obtain ⟨ra1, rc1, rfl⟩ := r5.form
             have r5 : RRow T1 _ (.slice ra1 2 rc1) ([⟨3, 4, vp, vp, peer.s⟩] ++ [⟨129, 4, vp1, vp1, d1.s⟩]) := r5
             have o5 : (Value.ownBlock (.slice ra1 2 rc1) = _ ∨ _) := o5
             have I1 := Lib.hid (K1.out.app k5 r5 o5)
             have y4 := (k5.block sb (Array.getElem?_eq_some_iff.1 K1.out.sbk).1 (fun he => K1.out.ne1 sb he rfl)).trans K1.out.sbk
             have u2 := cellOf y4 2 _ rfl
             have f2 := fun o => fzOf y4 o
             have p0 := cellOf I1.out.x3 0 (.int .u8 (d2.a.toNat : Int)) rfl
             have p1 := cellOf I1.out.x3 1 (.int .u8 (d2.b.toNat : Int)) rfl
             have p2 := cellOf I1.out.x3 2 (.int .u8 (d2.c.toNat : Int)) rfl
             have p3 := cellOf I1.out.x3 3 (.int .u8 (d2.d.toNat : Int)) rfl
             have s0 := cellOf I1.out.sbk 0 _ rfl
             have s1 := cellOf I1.out.sbk 1 _ rfl
             have s2 := cellOf I1.out.sbk 2 _ rfl
             have s3 := cellOf I1.out.sbk 3 _ rfl
             have s4 := cellOf I1.out.sbk 4 _ rfl
             have s5 := cellOf I1.out.sbk 5 _ rfl
             have s6 := cellOf I1.out.sbk 6 _ rfl
             have s7 := cellOf I1.out.sbk 7 _ rfl
             clear r5 k5 o5 y4))
        have hI := I1.out
        have hP : Rls _ (fun b => w.heap.size ≤ b) _ (([⟨3, 4, vp, vp, peer.s⟩] ++ [⟨129, 4, vp1, vp1, d1.s⟩])) := Rec.mono (hI.rrow.rls (by unfold maxLen; simp)) (fun b hb => by have hb : w.heap.size + 1 + 1 + 1 + 1 ≤ b := hb; omega)
        have hN := new_at [⟨3, own.s⟩] [] ([⟨3, 4, vp, vp, peer.s⟩] ++ [⟨129, 4, vp1, vp1, d1.s⟩]) [] _ _ _ _ (fun b => w.heap.size ≤ b) cf tm fl wt _ (hI.orow.opts (show 1 ≤ maxLen by decide)) (Rec.nil _ _ _) hP (Rec.nil _ _ _) (fun n c h => by cases h; rfl) (fun n c h => by have hR := hI.rrow; rw [h] at hR; exact hR.nil0) (by decide) (by simp) (by decide) (inB20_true.2 HA.out.1) (inB20_true.2 HA.out.2.1) HA.out.2.2.1.1 HA.out.2.2.1.2 HA.out.2.2.2.1 HA.out.2.2.2.2 (fun o ho => by simp only [List.mem_singleton] at ho; subst ho; show 4 ≤ 100000; decide) rfl rfl (by rw [List.nil_append]; have := HW.out.2.1; rw [HR.out] at this; exact this) (by rw [List.nil_append]; have := HW.out.2.2; rw [HR.out] at this; exact this)
        have HN := Lib.hid hN
        have HBL := Lib.hid hI.bl
        clear hN hI hP
        try go_wp2_with fail
        refine HN.out.mono ?_
        rintro e w9 ⟨v, rfl, B, jb, rfl, h1, h2, h3, h4, h5⟩
        have H9 := Lib.hid (And.intro h1 (And.intro h2 (And.intro h3 (And.intro h4 h5))))
        clear h1 h2 h3 h4 h5
        go_wp2_with fail
        go_ret2
        rw [HR.out]
        have hsz := HBL.out.size
        exact ⟨_, rfl, B, jb, rfl, H9.out.1.mono (fun b hb => Nat.le_trans hsz hb), H9.out.2.1, Nat.le_trans hsz H9.out.2.2.1, H9.out.2.2.2.1, HBL.out.trans (H9.out.2.2.2.2.mono hsz)⟩
      | false =>
        go_wp2_with fail
        refine wp_region_H (rgH 1 5) (fun X : World => X.cell? ⟨sb, 2, none⟩ = some (.slice (some ⟨rb, 0, none⟩) 1 1)) (by kernel_rfl) ?_
        have HSv : (fun X : World => X.cell? ⟨sb, 2, none⟩ = some (.slice (some ⟨rb, 0, none⟩) 1 1)) w'.drew := s2
        refine wpAnyH_pure 0 (v := ?vv69) rfl (by kernel_rfl) (by kernel_rfl) (by kernel_rfl) (fun _ _ _ h => h) ?hy69 ?hh69
        case hy69 =>
          refine Or.inl ⟨by rfl, ?_⟩
          intro W _
          go_simp
          try with_reducible rfl
        simp only [Act.put, List.setIfInBounds_toArray, List.set_cons_zero, List.set_cons_succ]
        refine wpAnyH_at 1 (v := ?vv70) rfl (by kernel_rfl) (by kernel_rfl) (by kernel_rfl) (fun _ _ _ h => h) ?hy70 HSv ?hh70
        case hy70 =>
          refine Or.inl ⟨by rfl, ?_⟩
          intro W hW
          obtain h0 := hW
          go_simp
          try with_reducible rfl
        simp only [Act.put, List.setIfInBounds_toArray, List.set_cons_zero, List.set_cons_succ]
        refine wpAnyH_1 2 rfl (by kernel_rfl) ?_
        intro K hK
        rw [if_pos (by rfl)]
        try go_simp
        refine hK _ _ (fun _ => HSv) ?_
        try simp only [Act.put, List.setIfInBounds_toArray, List.set_cons_zero, List.set_cons_succ]
        clear HSv s0 s1 s2 s3 s4 s5 s6 s7 p0 p1 p2 p3 q0 q1 q2 q3
        refine wpAnyH_1 3 rfl (by kernel_rfl) ?_
        intro K hK
        rw [if_pos (by rfl)]
        try go_simp
        go_at_call 43
        refine (HJ1.out _).mono ?_
        rintro e U1 ⟨rfl, hb⟩
        have J1 := Lib.hid ((I0.out.go (Below.refl _ _).drew).go hb)
        have HSv : (fun X : World => X.cell? ⟨sb, 2, none⟩ = some (.slice (some ⟨rb, 0, none⟩) 1 1)) U1 := cellOf J1.out.sbk 2 _ rfl
        clear hb
        refine hK _ _ (fun _ => HSv) ?_
        try simp only [Act.put, List.setIfInBounds_toArray, List.set_cons_zero, List.set_cons_succ]
        refine wpAnyH_1 4 rfl (by kernel_rfl) ?_
        intro K hK
        rw [if_pos (by rfl)]
        try go_simp
        have K1 := Lib.hid (J1.out.go ((Below.refl _ _).alloc (Nat.le_refl _) (.cells #[.int .i64 129, .int .i64 4, .int .i64 vp1, .int .i64 vp1, .string d1.s] 43 (0, 0))))
        have HN1 := Lib.hid (at1 U1 (.cells #[.int .i64 129, .int .i64 4, .int .i64 vp1, .int .i64 vp1, .string d1.s] 43 (0, 0)))
        have HSv : (fun X : World => X.cell? ⟨sb, 2, none⟩ = some (.slice (some ⟨rb, 0, none⟩) 1 1)) (U1.alloc (.cells #[.int .i64 129, .int .i64 4, .int .i64 vp1, .int .i64 vp1, .string d1.s] 43 (0, 0))) := cellOf K1.out.sbk 2 _ rfl
        refine hK _ _ (fun _ => HSv) ?_
        try simp only [Act.put, List.setIfInBounds_toArray, List.set_cons_zero, List.set_cons_succ]
        refine wpAnyH_end 5 (fun j hj => rgH_end _ _ j (by omega)) (by rfl) (by kernel_rfl) ?_
        simp only [List.drop_succ_cons, List.drop_zero]
        go_wp2_with (first
          | (at_builtin; refine wpl_append_rules rfl _ _ rfl _ ([⟨3, 4, vp, vp, peer.s⟩]) rfl K1.out.rrow _ [⟨129, 4, vp1, vp1, d1.s⟩] rfl ((RRow.one ⟨129, 4, vp1, vp1, d1.s⟩ HN1.out (Nat.le_refl _)).rls (show 1 ≤ maxLen by decide)) (by intro n c h; cases h) (by simp) (by have := (Array.getElem?_eq_some_iff.1 K1.out.sbk).1; have := K1.out.hsb; omega) ?_
             intro pv1 T1 r5 k5 o5
             obtain ⟨ra1, rc1, rfl⟩ := r5.form
             have r5 : RRow T1 _ (.slice ra1 2 rc1) ([⟨3, 4, vp, vp, peer.s⟩] ++ [⟨129, 4, vp1, vp1, d1.s⟩]) := r5
             have o5 : (Value.ownBlock (.slice ra1 2 rc1) = _ ∨ _) := o5
             have I1 := Lib.hid (K1.out.app k5 r5 o5)
             have y4 := (k5.block sb (Array.getElem?_eq_some_iff.1 K1.out.sbk).1 (fun he => K1.out.ne1 sb he rfl)).trans K1.out.sbk
             have u2 := cellOf y4 2 _ rfl
             have f2 := fun o => fzOf y4 o
             have p0 := cellOf I1.out.x3 0 (.int .u8 (d2.a.toNat : Int)) rfl
             have p1 := cellOf I1.out.x3 1 (.int .u8 (d2.b.toNat : Int)) rfl
             have p2 := cellOf I1.out.x3 2 (.int .u8 (d2.c.toNat : Int)) rfl
             have p3 := cellOf I1.out.x3 3 (.int .u8 (d2.d.toNat : Int)) rfl
             have s0 := cellOf I1.out.sbk 0 _ rfl
             have s1 := cellOf I1.out.sbk 1 _ rfl
             have s2 := cellOf I1.out.sbk 2 _ rfl
             have s3 := cellOf I1.out.sbk 3 _ rfl
             have s4 := cellOf I1.out.sbk 4 _ rfl
             have s5 := cellOf I1.out.sbk 5 _ rfl
             have s6 := cellOf I1.out.sbk 6 _ rfl
             have s7 := cellOf I1.out.sbk 7 _ rfl
             clear r5 k5 o5 y4))
        refine wp_region_H (rgH 1 5) (fun X : World => X.cell? ⟨sb, 2, none⟩ = some (.slice ra1 2 rc1)) (by kernel_rfl) ?_
        have HSv : (fun X : World => X.cell? ⟨sb, 2, none⟩ = some (.slice ra1 2 rc1)) (T1.setCell ⟨sb, 2, none⟩ (.slice ra1 2 rc1)).drew := s2
        refine wpAnyH_pure 0 (v := ?vv71) rfl (by kernel_rfl) (by kernel_rfl) (by kernel_rfl) (fun _ _ _ h => h) ?hy71 ?hh71
        case hy71 =>
          refine Or.inl ⟨by rfl, ?_⟩
          intro W _
          go_simp
          try with_reducible rfl
        simp only [Act.put, List.setIfInBounds_toArray, List.set_cons_zero, List.set_cons_succ]
        refine wpAnyH_at 1 (v := ?vv72) rfl (by kernel_rfl) (by kernel_rfl) (by kernel_rfl) (fun _ _ _ h => h) ?hy72 HSv ?hh72
        case hy72 =>
          refine Or.inl ⟨by rfl, ?_⟩
          intro W hW
          obtain h0 := hW
          go_simp
          try with_reducible rfl
        simp only [Act.put, List.setIfInBounds_toArray, List.set_cons_zero, List.set_cons_succ]
        refine wpAnyH_1 2 rfl (by kernel_rfl) ?_
        intro K hK
        rw [if_pos (by rfl)]
        try go_simp
        refine hK _ _ (fun _ => HSv) ?_
        try simp only [Act.put, List.setIfInBounds_toArray, List.set_cons_zero, List.set_cons_succ]
        clear HSv s0 s1 s2 s3 s4 s5 s6 s7 p0 p1 p2 p3
        refine wpAnyH_1 3 rfl (by kernel_rfl) ?_
        intro K hK
        rw [if_pos (by rfl)]
        try go_simp
        go_at_call 43
        refine (HJ2.out _).mono ?_
        rintro e U2 ⟨rfl, hb⟩
        have J2 := Lib.hid ((I1.out.go (Below.refl _ _).drew).go hb)
        have HSv : (fun X : World => X.cell? ⟨sb, 2, none⟩ = some (.slice ra1 2 rc1)) U2 := cellOf J2.out.sbk 2 _ rfl
        clear hb
        refine hK _ _ (fun _ => HSv) ?_
        try simp only [Act.put, List.setIfInBounds_toArray, List.set_cons_zero, List.set_cons_succ]
        refine wpAnyH_1 4 rfl (by kernel_rfl) ?_
        intro K hK
        rw [if_pos (by rfl)]
        try go_simp
        have K2 := Lib.hid (J2.out.go ((Below.refl _ _).alloc (Nat.le_refl _) (.cells #[.int .i64 131, .int .i64 4, .int .i64 vp2, .int .i64 vp2, .string d2.s] 43 (0, 0))))
        have HN2 := Lib.hid (at1 U2 (.cells #[.int .i64 131, .int .i64 4, .int .i64 vp2, .int .i64 vp2, .string d2.s] 43 (0, 0)))
        have HSv : (fun X : World => X.cell? ⟨sb, 2, none⟩ = some (.slice ra1 2 rc1)) (U2.alloc (.cells #[.int .i64 131, .int .i64 4, .int .i64 vp2, .int .i64 vp2, .string d2.s] 43 (0, 0))) := cellOf K2.out.sbk 2 _ rfl
        refine hK _ _ (fun _ => HSv) ?_
        try simp only [Act.put, List.setIfInBounds_toArray, List.set_cons_zero, List.set_cons_succ]
        refine wpAnyH_end 5 (fun j hj => rgH_end _ _ j (by omega)) (by rfl) (by kernel_rfl) ?_
        simp only [List.drop_succ_cons, List.drop_zero]
        go_wp2_with (first
          | (at_builtin; refine wpl_append_rules rfl _ _ rfl _ (([⟨3, 4, vp, vp, peer.s⟩] ++ [⟨129, 4, vp1, vp1, d1.s⟩])) rfl K2.out.rrow _ [⟨131, 4, vp2, vp2, d2.s⟩] rfl ((RRow.one ⟨131, 4, vp2, vp2, d2.s⟩ HN2.out (Nat.le_refl _)).rls (show 1 ≤ maxLen by decide)) (by intro n c h; cases h) (by simp) (by have := (Array.getElem?_eq_some_iff.1 K2.out.sbk).1; have := K2.out.hsb; omega) ?_
             intro pv2 T2 r5 k5 o5
             obtain ⟨ra2, rc2, rfl⟩ := r5.form
             have r5 : RRow T2 _ (.slice ra2 3 rc2) (([⟨3, 4, vp, vp, peer.s⟩] ++ [⟨129, 4, vp1, vp1, d1.s⟩]) ++ [⟨131, 4, vp2, vp2, d2.s⟩]) := r5
             have o5 : (Value.ownBlock (.slice ra2 3 rc2) = _ ∨ _) := o5
             have I2 := Lib.hid (K2.out.app k5 r5 o5)
             have y4 := (k5.block sb (Array.getElem?_eq_some_iff.1 K2.out.sbk).1 (fun he => K2.out.ne1 sb he rfl)).trans K2.out.sbk
             have u2 := cellOf y4 2 _ rfl
             have f2 := fun o => fzOf y4 o
             have s0 := cellOf I2.out.sbk 0 _ rfl
             have s1 := cellOf I2.out.sbk 1 _ rfl
             have s2 := cellOf I2.out.sbk 2 _ rfl
             have s3 := cellOf I2.out.sbk 3 _ rfl
             have s4 := cellOf I2.out.sbk 4 _ rfl
             have s5 := cellOf I2.out.sbk 5 _ rfl
             have s6 := cellOf I2.out.sbk 6 _ rfl
             have s7 := cellOf I2.out.sbk 7 _ rfl
             clear r5 k5 o5 y4))
        have hI := I2.out
        have hP : Rls _ (fun b => w.heap.size ≤ b) _ ((([⟨3, 4, vp, vp, peer.s⟩] ++ [⟨129, 4, vp1, vp1, d1.s⟩]) ++ [⟨131, 4, vp2, vp2, d2.s⟩])) := Rec.mono (hI.rrow.rls (by unfold maxLen; simp)) (fun b hb => by have hb : w.heap.size + 1 + 1 + 1 + 1 ≤ b := hb; omega)
        have hN := new_at [⟨3, own.s⟩] [] (([⟨3, 4, vp, vp, peer.s⟩] ++ [⟨129, 4, vp1, vp1, d1.s⟩]) ++ [⟨131, 4, vp2, vp2, d2.s⟩]) [] _ _ _ _ (fun b => w.heap.size ≤ b) cf tm fl wt _ (hI.orow.opts (show 1 ≤ maxLen by decide)) (Rec.nil _ _ _) hP (Rec.nil _ _ _) (fun n c h => by cases h; rfl) (fun n c h => by have hR := hI.rrow; rw [h] at hR; exact hR.nil0) (by decide) (by simp) (by decide) (inB20_true.2 HA.out.1) (inB20_true.2 HA.out.2.1) HA.out.2.2.1.1 HA.out.2.2.1.2 HA.out.2.2.2.1 HA.out.2.2.2.2 (fun o ho => by simp only [List.mem_singleton] at ho; subst ho; show 4 ≤ 100000; decide) rfl rfl (by rw [List.nil_append]; have := HW.out.2.1; rw [HR.out] at this; exact this) (by rw [List.nil_append]; have := HW.out.2.2; rw [HR.out] at this; exact this)
        have HN := Lib.hid hN
        have HBL := Lib.hid hI.bl
        clear hN hI hP
        try go_wp2_with fail
        refine HN.out.mono ?_
        rintro e w9 ⟨v, rfl, B, jb, rfl, h1, h2, h3, h4, h5⟩
        have H9 := Lib.hid (And.intro h1 (And.intro h2 (And.intro h3 (And.intro h4 h5))))
        clear h1 h2 h3 h4 h5
        go_wp2_with fail
        go_ret2
        rw [HR.out]
        have hsz := HBL.out.size
        exact ⟨_, rfl, B, jb, rfl, H9.out.1.mono (fun b hb => Nat.le_trans hsz hb), H9.out.2.1, Nat.le_trans hsz H9.out.2.2.1, H9.out.2.2.2.1, HBL.out.trans (H9.out.2.2.2.2.mono hsz)⟩
end Go.Proofs.Ytijepfjfmpmfnaa
