import Derived.Test.YtignponfoheaeaaGreatRAT
import Derived.Test.YtignponfoheaeaaGreatRAA
import Derived.Test.YtignponfoheaeaaGreatRAN
import Derived.Test.YtignponfoheaeaaGreatRAD
import Derived.Test.YtignponfoheaeaaGreatRAG
import Derived.Test.YtignponfoheaeaaGreatRAS
set_option linter.unusedVariables false
set_option linter.unusedSimpArgs false
set_option maxHeartbeats 16000000
namespace Go.Proofs.YtignponfoheaeaaGreat
open Go.RowKit Go.Tg Go.Maps
theorem alloc3 (w : World) (A B C : Obj) : ∃ W, W = ((w.alloc A).alloc B).alloc C /\ W.heap.size = w.heap.size + 3 /\ W.heap[w.heap.size]? = some A /\ W.heap[w.heap.size + 1]? = some B /\ W.heap[w.heap.size + 1 + 1]? = some C /\ Below w.heap.size w W := by
 have e1 := alloc1 w A; have e2 := alloc1 (w.alloc A) B; have e3 := alloc1 ((w.alloc A).alloc B) C; refine ⟨_, rfl, by omega, ?_, ?_, ?_, (((Below.refl _ _).alloc (Nat.le_refl _) _).alloc (by omega) _).alloc (by omega) _⟩
 . rw [Below.heap_alloc _ _ _ (by omega), Below.heap_alloc _ _ _ (by omega)]; exact at1 _ _
 . rw [Below.heap_alloc _ _ _ (by omega), <- e1]; exact at1 _ _
 . rw [show w.heap.size + 1 + 1 = ((w.alloc A).alloc B).heap.size by omega]; exact at1 _ _
theorem set4 {w : World} {b : Nat} {T : TypeId} {a0 a1 a2 a3 : Value} (h : w.heap[b]? = some (.cells #[a0, a1, a2, a3] T (0, 0))) (v0 v1 v2 v3 : Value) :
 ((((w.setCell ⟨b, 0, none⟩ v0).setCell ⟨b, 1, none⟩ v1).setCell ⟨b, 2, none⟩ v2).setCell ⟨b, 3, none⟩ v3).heap[b]? = some (.cells #[v0, v1, v2, v3] T (0, 0)) := by
 have := set_block (set_block (set_block (set_block h 0 v0) 1 v1) 2 v2) 3 v3
 simpa using this
theorem pk_cells : (Tryz.prog.info? 93).map (·.size) = some 4 := by kernel_rfl
def RefPost (w w' : World) (S ok : Nat -> Prop) (B : NegB) (C : NegC) (r : NSt × Pk) (e : Ending) : Prop :=
 ∃ vo, e = .returned (pkV r.2 vo) /\ (Opts w' (Grow ok w) vo r.2.o /\ ORow w' 0 vo r.2.o /\ ∀ k, vo.ownBlock = some k -> Grow ok w k) /\ NegV w' (Grow S w) B C r.1 /\ Keep (fun b => b = B.nb) w w'
theorem RefPost.fin {w W W' : World} {S ok : Nat -> Prop} {B : NegB} {C : NegC} {st' : NSt} {p : Pk} {vo : Value} (h : NegV W (fun b => S b /\ b < w.heap.size) B C st') (hk : Keep (fun b => b = B.nb) w W) (hk' : Keep (fun b => b = w.heap.size + 1) W W')
 (ho : Opts W' (Grow ok w) vo p.o /\ ORow W' 0 vo p.o /\ ∀ k, vo.ownBlock = some k -> Grow ok w k) (_hd : p.d = noB) (e : Ending) (he : e = .returned (pkV p vo)) : RefPost w W' S ok B C (st', p) e := by
 refine ⟨vo, he, ho, (h.keep hk' (fun b _ hb he => by have := hb.2; omega)).mono (fun b hb => .inl hb.1), ?_⟩; exact ⟨hk'.os.trans hk.os, hk'.tape.trans hk.tape, hk'.output.trans hk.output, Nat.le_trans hk.size hk'.size, fun b hb hn => (hk'.block b (Nat.lt_of_lt_of_le hb hk.size) (by omega)).trans (hk.block b hb hn)⟩
structure RefI (w wr : World) (c0 c1 : Array Value) (pi : Int) (v : Value) (kept : List Opt) : Prop where
 below : Below w.heap.size w wr
 x0 : wr.heap[w.heap.size]? = some (.cells c0 183 (0, 0))
 x1 : wr.heap[w.heap.size + 1]? = some (.cells c1 93 (0, 0))
 x2 : wr.heap[w.heap.size + 1 + 1]? = some (.cells #[.int .i64 4, .int .i64 pi, v, .string ⟨#[]⟩] 93 (0, 0))
 row : ORow wr (w.heap.size + 1 + 1 + 1) v kept
theorem RefI.sz {w wr : World} {c0 c1 : Array Value} {pi : Int} {v : Value} {kept : List Opt} (h : RefI w wr c0 c1 pi v kept) : w.heap.size + 1 + 1 + 1 <= wr.heap.size := (Array.getElem?_eq_some_iff.1 h.x2).1
theorem RefI.go {w wr w' : World} {c0 c1 : Array Value} {pi : Int} {v : Value} {kept : List Opt} (h : RefI w wr c0 c1 pi v kept) (hb : Below wr.heap.size wr w') : RefI w w' c0 c1 pi v kept := by
 have := h.sz; exact ⟨h.below.trans (hb.mono h.below.size), (hb.block _ (by omega)).trans h.x0, (hb.block _ (by omega)).trans h.x1, (hb.block _ (by omega)).trans h.x2, h.row.below hb⟩
theorem RefI.app {w wr w' : World} {c0 c1 : Array Value} {pi : Int} {v v' : Value} {kept kept' : List Opt} (h : RefI w wr c0 c1 pi v kept) (hk : Keep (fun k => v.ownBlock = some k) wr w') (hr : ORow w' (w.heap.size + 1 + 1 + 1) v' kept') :
 RefI w (w'.setCell ⟨w.heap.size + 1 + 1, 2, none⟩ v') c0 c1 pi v' kept' := by
 have hs := h.sz; have hn : ∀ k, k < w.heap.size + 1 + 1 + 1 -> ¬ v.ownBlock = some k := fun k hk he => by have := (h.row.lt k he).2; omega
 have y0 := (hk.block _ (by omega) (hn _ (by omega))).trans h.x0; have y1 := (hk.block _ (by omega) (hn _ (by omega))).trans h.x1; have y2 := (hk.block _ (by omega) (hn _ (by omega))).trans h.x2; have hk2 : Keep (fun b => b = w.heap.size + 1 + 1) w' (w'.setCell ⟨w.heap.size + 1 + 1, 2, none⟩ v') := (Keep.refl (fun b => b = w.heap.size + 1 + 1) w').setCell ⟨w.heap.size + 1 + 1, 2, none⟩ (Or.inr rfl) v'; have hs' := hk.size; have hbs := h.below.size; refine ⟨h.below.trans ((hk.below hbs (fun k hk => hn k (by omega))).trans (hk2.below (by omega) (fun k hk he => by omega))), (hk2.block _ (by omega) (by omega)).trans y0, (hk2.block _ (by omega) (by omega)).trans y1, ?_, hr.keep hk2 (fun k hk he => by have := (hr.lt k hk).2; omega)⟩; have := set_block y2 2 v'
 simpa using this
section
variable {w : World} {S ok : Nat -> Prop} {B : NegB} {C : NegC} {st : NSt} {X : NegX} (c : Came) (po pa : Value)
set_option maxRecDepth 100000 in
theorem refuse_at (h : NegAt w S B C st X) (hc : CameAt w B ok c po pa) :
 Calls Tryz.prog 246 #[.pointer (some ⟨B.nb, 0, none⟩), cameV c po pa] w fun e w' => RefPost w w' S ok B C (refuseS C st c) e := by
 obtain ⟨a1, k1, rfl, hc1, hc2⟩ := hc.po.form; obtain ⟨a2, k2, rfl, hc3, hc4⟩ := hc.2.1.1.form; have H := H_ (A_ h hc); obtain ⟨is, ⟨pc, pi, pl, pd⟩, cc, ca⟩ := c; unfold cameV; clear h hc
 by_cases h3 : cc = 3
 . subst h3; obtain ⟨W, hW, hs, x0, x1, x2, hb⟩ := alloc3 w (.cells #[.bool is, .int .i64 pc, .int .i64 pi, .slice a1 pl.length k1, .string pd, .int .i64 3, .slice a2 ca.length k2] 183 (0, 0)) (.cells #[.int .i64 0, .int .i64 0, .slice none 0 0, .string ⟨#[]⟩] 93 (0, 0)) (.cells #[.int .i64 3, .int .i64 pi, .slice a2 ca.length k2, .string ⟨#[]⟩] 93 (0, 0)); have h1 := H.out.1.old.below hb; have g7 : W.cell? ⟨B.nb, 7, none⟩ = some (.int .i64 C.fl) := h1.cell 7; have g13 : W.cell? ⟨B.nb, 13, none⟩ = some (.int .i64 st.naks) := h1.cell 13; have HSv : (fun W : World => W.cell? ⟨B.nb, 7, none⟩ = some (.int .i64 C.fl) /\ W.cell? ⟨B.nb, 13, none⟩ = some (.int .i64 st.naks)) W.drew := ⟨g7, g13⟩; have HB := H_ (A_ hb (A_ h1 (A_ x0 (A_ x1 (A_ x2 hs))))); have c20 : W.cell? ⟨w.heap.size + 1 + 1, 0, none⟩ = some (.int .i64 3) := cellOf x2 0 _ rfl; have c21 : W.cell? ⟨w.heap.size + 1 + 1, 1, none⟩ = some (.int .i64 pi) := cellOf x2 1 _ rfl; have c22 : W.cell? ⟨w.heap.size + 1 + 1, 2, none⟩ = some (.slice a2 ca.length k2) := cellOf x2 2 _ rfl; have c23 : W.cell? ⟨w.heap.size + 1 + 1, 3, none⟩ = some (.string ⟨#[]⟩) := cellOf x2 3 _ rfl; have c10 : W.cell? ⟨w.heap.size + 1, 0, none⟩ = some (.int .i64 0) := cellOf x1 0 _ rfl; have c11 : W.cell? ⟨w.heap.size + 1, 1, none⟩ = some (.int .i64 0) := cellOf x1 1 _ rfl; have c12 : W.cell? ⟨w.heap.size + 1, 2, none⟩ = some (.slice none 0 0) := cellOf x1 2 _ rfl; have c13 : W.cell? ⟨w.heap.size + 1, 3, none⟩ = some (.string ⟨#[]⟩) := cellOf x1 3 _ rfl; have c06 : W.cell? ⟨w.heap.size, 6, none⟩ = some (.slice a2 ca.length k2) := cellOf x0 6 _ rfl; have c03 : W.cell? ⟨w.heap.size, 3, none⟩ = some (.slice a1 pl.length k1) := cellOf x0 3 _ rfl; have z1 := fun o => fzOf x1 o; have z2 := fun o => fzOf x2 o; have zn := fun o => h1.fz o; have hne : B.nb < w.heap.size := H.out.1.nlt; clear hb h1 x0 x1 x2 hs; go_enter Tryz.func246, Tryz.ntmps246; go_wp2_with fail; rw [<- hW]; clear hW; refine wp_region_N 18 (fun W : World => W.cell? ⟨B.nb, 7, none⟩ = some (.int .i64 C.fl) /\ W.cell? ⟨B.nb, 13, none⟩ = some (.int .i64 st.naks)) (by kernel_rfl) ?_
   by_cases hf : 0 < C.fl
   . have df : decide (0 < C.fl) = true := by simpa using hf
     by_cases hn : C.fl <= st.naks
     . have dn : decide (C.fl <= st.naks) = true := by simpa using hn
       have HQ := H_ (show 0 < C.fl /\ C.fl <= st.naks from ⟨hf, hn⟩); obtain ⟨len, hln⟩ : ∃ len, len = pl.length := ⟨_, rfl⟩; have HLN := H_ hln; rw [<- hln]; rw [<- hln] at c03 hc1; have hlen : len <= 1000000 := by have := H.out.2.2.2.2.1; simp only at this; omega
       obtain ⟨okp, hpo, -⟩ := H.out.2.1; have hpa := H.out.2.2.1.1; have hla := H.out.2.2.2.2.2; simp only at hpo hpa hla
       rw [<- hln] at hpo; have HP := H_ (A_ hpo (A_ hpa hla))
       have HI0 : RefI w ((W.setCell ⟨w.heap.size + 1 + 1, 0, none⟩ (.int .i64 4)).setCell ⟨w.heap.size + 1 + 1, 2, none⟩ (.slice none 0 0)).drew (cameCells ⟨is, ⟨pc, pi, pl, pd⟩, 3, ca⟩ (.slice a1 len k1) (.slice a2 ca.length k2)) #[.int .i64 0, .int .i64 0, .slice none 0 0, .string ⟨#[]⟩] pi (.slice none 0 0) [] := by
        have hs := HB.out.2.2.2.2.2; have kk := (((Keep.refl (fun b => b = w.heap.size + 1 + 1) W).setCell ⟨w.heap.size + 1 + 1, 0, none⟩ (Or.inr rfl) (.int .i64 4)).setCell ⟨w.heap.size + 1 + 1, 2, none⟩ (Or.inr rfl) (.slice none 0 0)).drew
        have yy : ((W.setCell ⟨w.heap.size + 1 + 1, 0, none⟩ (.int .i64 4)).setCell ⟨w.heap.size + 1 + 1, 2, none⟩ (.slice none 0 0)).heap[w.heap.size + 1 + 1]? = some (.cells #[.int .i64 4, .int .i64 pi, .slice none 0 0, .string ⟨#[]⟩] 93 (0, 0)) := by
         have := set_block (set_block HB.out.2.2.2.2.1 0 (.int .i64 4)) 2 (.slice none 0 0)
         simpa using this
        have xx := HB.out.2.2.1; rw [<- hln] at xx; refine ⟨HB.out.1.trans (kk.below (by omega) (fun k hk he => by omega)), (kk.block _ (by omega) (by omega)).trans xx, (kk.block _ (by omega) (by omega)).trans HB.out.2.2.2.1, yy, ORow.nil _ _⟩
       have HI0 := H_ HI0; clear hf hn hln hpo hpa hla; refine hatN 0 rfl (by rintro W ⟨h1, h2⟩; go_simp; try rfl) HSv ?_; simp only [aZ, aC, aD]; refine hatN 1 rfl (by rintro W ⟨h1, h2⟩; go_simp; try rfl) HSv ?_; simp only [aZ, aC, aD]; refine hatN 2 rfl (by rintro W ⟨h1, h2⟩; go_simp; try rfl) HSv ?_; simp only [aZ, aC, aD]; refine hatN 3 rfl (by rintro W ⟨h1, h2⟩; go_simp; try rfl) HSv ?_; simp only [aZ, aC, aD]; refine hatN 4 rfl (by rintro W ⟨h1, h2⟩; go_simp; try rfl) HSv ?_; simp only [aZ, aC, aD]; refine hatN 5 rfl (by rintro W ⟨h1, h2⟩; go_simp; try rfl) HSv ?_; simp only [aZ, aC, aD]; refine hatN 6 rfl (by rintro W ⟨h1, h2⟩; go_simp; try rfl) HSv ?_; simp only [aZ, aC, aD]; refine hatN 7 rfl (by rintro W ⟨h1, h2⟩; go_simp; try rfl) HSv ?_; simp only [aZ, aC, aD]; refine hatN 8 rfl (by rintro W ⟨h1, h2⟩; go_simp; try rfl) HSv ?_; simp only [aZ, aC, aD]; refine hatN 9 rfl (by rintro W ⟨h1, h2⟩; go_simp; try rfl) HSv ?_; simp only [aZ, aC, aD]; refine hatN 10 rfl (by rintro W ⟨h1, h2⟩; go_simp; try rfl) HSv ?_; simp only [aZ, aC, aD]; refine hatN 11 rfl (by rintro W ⟨h1, h2⟩; go_simp; try rfl) HSv ?_; simp only [aZ, aC, aD]; refine hatN 12 rfl (by rintro W ⟨h1, h2⟩; go_simp; try rfl) HSv ?_; simp only [aZ, aC, aD]; refine hatN 13 rfl (by rintro W ⟨h1, h2⟩; go_simp; try rfl) HSv ?_; simp only [aZ, aC, aD]; refine hatN 14 rfl (by rintro W ⟨h1, h2⟩; go_simp; try rfl) HSv ?_; simp only [aZ, aC, aD]; refine hatN 15 rfl (by rintro W ⟨h1, h2⟩; go_simp; try rfl) HSv ?_; simp only [aZ, aC, aD]; refine hatN 16 rfl (by rintro W ⟨h1, h2⟩; go_simp; try rfl) HSv ?_; simp only [aZ, aC, aD]; refine hatN 17 rfl (by rintro W ⟨h1, h2⟩; go_simp; try rfl) HSv ?_; simp only [aZ, aC, aD]; refine wpAnyN_end 18 (by decide) rfl (by kernel_rfl) ?_; simp only [List.drop_succ_cons, List.drop_zero]; go_wp2_with fail; clear c20 c21 c22 c23 c10 c11 c12 c13 c06 c03 z1 z2 zn g7 g13 HSv df dn hne
       go_loopg [46] len (fun x i wr => ∃ k : Nat, k <= len /\ x = len - k /\ i = .int .i64 k /\ Hid (∃ v, RefI w wr (cameCells ⟨is, ⟨pc, pi, pl, pd⟩, 3, ca⟩ (.slice a1 len k1) (.slice a2 ca.length k2)) #[.int .i64 0, .int .i64 0, .slice none 0 0, .string ⟨#[]⟩] pi v ((pl.take k).filter fun o => (findO ca o.t).isSome)))
       case atStart => exact ⟨0, by omega, by omega, rfl, _, HI0.out⟩
       case round =>
        obtain ⟨k, hk, rfl, rfl, hK⟩ := hrel; obtain ⟨va, hva⟩ := hK.out; have HK := H_ hva; obtain ⟨ra, rc, rfl⟩ := hva.row.form; clear hK hva
        by_cases hkl : k < len
        . have hkl' : k < pl.length := by have := HLN.out; omega
          obtain ⟨b, off, rfl, hb, -, -, -, -, c0, c1⟩ := HP.out.1.at k hkl'; have d0 : wr.cell? ⟨b, off + k * 2, none⟩ = _ := (HK.out.below.cell (p := ⟨b, off + k * 2, none⟩) hb).trans c0; have d1 : wr.cell? ⟨b, off + k * 2 + 1, none⟩ = _ := (HK.out.below.cell (p := ⟨b, off + k * 2 + 1, none⟩) hb).trans c1
          have HS := H_ (show (pl.take (k + 1)).filter (fun o => (findO ca o.t).isSome) = (pl.take k).filter (fun o => (findO ca o.t).isSome) ++ (if (findO ca pl[k].t).isSome then [pl[k]] else []) from by
           rw [List.take_succ_eq_append_getElem hkl', List.filter_append]
           congr 1
           cases h : (findO ca pl[k].t).isSome <;> simp [h])
          have hkept : ((pl.take k).filter fun o => (findO ca o.t).isSome).length <= 1000000 := Nat.le_trans (List.length_filter_le _ _) (by rw [List.length_take]; omega); generalize (pl.take k).filter (fun o => (findO ca o.t).isSome) = kept at HK HS hkept ⊢; generalize pl[k] = o at c0 c1 d0 d1 HS; obtain ⟨t, v⟩ := o; simp only at d0 d1 HS
          have hb1 := (Below.refl wr.heap.size wr).alloc (Nat.le_refl _) (.cells #[.int .i64 t, .string v] 91 (0, 0)); have HX := H_ (at1 wr (.cells #[.int .i64 t, .string v] 91 (0, 0))); have HKA := H_ (HK.out.go hb1); have HF := H_ (findO_any ca _ _ t _ (Opts.below HP.out.2.1 (HK.out.below.trans (hb1.mono HK.out.below.size))) HP.out.2.2); have c6 : (wr.alloc (.cells #[.int .i64 t, .string v] 91 (0, 0))).cell? ⟨w.heap.size, 6, none⟩ = some (.slice a2 ca.length k2) := cellOf HKA.out.x0 6 _ rfl; generalize ((findO ca t).getD default).v = sv at HF; generalize (findO ca t).isSome = y at HF HS; clear c0 c1 hb1
          cases y with
          | false =>
           go_wp2_with (go_at_call 243; refine HF.out.mono ?_; rintro e w2 ⟨rfl, hb2⟩)
           go_roundg (len - (k + 1))
           case measure => omega
           case rel => exact ⟨k + 1, by omega, rfl, by go_num, _, by rw [show _ = kept from HS.out.trans (List.append_nil kept)]; exact HKA.out.go hb2⟩
          | true =>
           go_wp2_with (first
            | (
             go_at_call 243; refine HF.out.mono ?_; rintro e w2 ⟨rfl, hb2⟩; have H2 := H_ (HKA.out.go hb2); have xb := (hb2.block wr.heap.size (by rw [alloc1]; omega)).trans HX.out; have e0 : w2.cell? ⟨wr.heap.size, 0, none⟩ = some (.int .i64 t) := cellOf xb 0 _ rfl; have e1 : w2.cell? ⟨wr.heap.size, 1, none⟩ = some (.string v) := cellOf xb 1 _ rfl; have e2 : w2.cell? ⟨w.heap.size + 1 + 1, 2, none⟩ = some (.slice ra kept.length rc) := cellOf H2.out.x2 2 _ rfl; have H3 := H_ (H2.out.go ((Below.refl _ _).alloc (Nat.le_refl _) (.cells #[.int .i64 t, .string v] 91 (0, 0)))); have HX3 := H_ (at1 w2 (.cells #[.int .i64 t, .string v] 91 (0, 0)))
             clear xb hb2)
            | (
             at_builtin; refine wpl_append_opt rfl _ _ rfl _ _ rfl H3.out.row _ 1 t v rfl HX3.out hkept H3.out.sz ?_
             intro g4 cap4 w4 r4 k4 o4; have y2 := (k4.block (w.heap.size + 1 + 1) (by have := H3.out.sz; omega) (fun he => by have := (H3.out.row.lt _ he).2; omega)).trans H3.out.x2; have e5 : w4.cell? ⟨w.heap.size + 1 + 1, 2, none⟩ = some (.slice ra kept.length rc) := cellOf y2 2 _ rfl; have f5 := fun o => fzOf y2 o; have hl4 : (kept ++ [(⟨t, v⟩ : Opt)]).length = kept.length + 1 := by simp
             rw [hl4] at r4; have H4 := H_ (H3.out.app k4 r4)
             clear r4 k4 o4 y2 hl4))
           go_roundg (len - (k + 1))
           case measure => omega
           case rel => exact ⟨k + 1, by omega, rfl, by go_num, _, by rw [show _ = kept ++ [⟨t, v⟩] from HS.out]; exact H4.out⟩
        . obtain rfl : len = k := by omega
          rw [show pl.take len = pl from by rw [HLN.out, List.take_length]] at HK; have y1 := HK.out.x1; have y2 := HK.out.x2; have e20 : wr.cell? ⟨w.heap.size + 1 + 1, 0, none⟩ = some (.int .i64 4) := cellOf y2 0 _ rfl; have e21 : wr.cell? ⟨w.heap.size + 1 + 1, 1, none⟩ = some (.int .i64 pi) := cellOf y2 1 _ rfl; have e22 := cellOf y2 2 _ rfl; have e23 : wr.cell? ⟨w.heap.size + 1 + 1, 3, none⟩ = some (.string ⟨#[]⟩) := cellOf y2 3 _ rfl; have e10 : wr.cell? ⟨w.heap.size + 1, 0, none⟩ = some (.int .i64 0) := cellOf y1 0 _ rfl; have e11 : wr.cell? ⟨w.heap.size + 1, 1, none⟩ = some (.int .i64 0) := cellOf y1 1 _ rfl; have e12 : wr.cell? ⟨w.heap.size + 1, 2, none⟩ = some (.slice none 0 0) := cellOf y1 2 _ rfl; have e13 : wr.cell? ⟨w.heap.size + 1, 3, none⟩ = some (.string ⟨#[]⟩) := cellOf y1 3 _ rfl; have f1 := fun o => fzOf y1 o; have HY := H_ y1
          have e : refuseS C st ⟨is, ⟨pc, pi, pl, pd⟩, 3, ca⟩ = (st, ⟨4, pi, pl.filter fun o => (findO ca o.t).isSome, noB⟩) := by
           unfold refuseS; rw [if_neg (by simp), if_pos HQ.out]
          have HE := H_ e; have hkept : (pl.filter fun o => (findO ca o.t).isSome).length <= 1000000 := Nat.le_trans (List.length_filter_le _ _) (by have := HLN.out; omega); generalize pl.filter (fun o => (findO ca o.t).isSome) = kept at HK hkept e22 HE; clear y1 y2 e; go_wp2_with fail; rw [HE.out]; refine bodyPost_ret (results_cell_row rfl _ _ (w.heap.size + 1) 93 _ (0, 0) _ rfl (set4 HY.out _ _ _ _) Tryz.underlying93 rfl pk_cells) rfl ?_; have hk4 := keep4 wr (w.heap.size + 1) (.int .i64 4) (.int .i64 pi) (.slice ra kept.length rc) (.string ⟨#[]⟩); refine RefPost.fin ⟨X, H.out.1.old.below HK.out.below⟩ (Keep.of_below _ HK.out.below) hk4 (vo := .slice ra kept.length rc) ?_ rfl _ rfl; exact ⟨Rec.mono (Rec.keep (HK.out.row.opts (by unfold maxLen; omega)) hk4 (fun b _ hb he => by omega)) (fun b hb => .inr (by have hb : w.heap.size + 1 + 1 + 1 <= b := hb; omega)), (HK.out.row.keep hk4 (fun k hk he => by have := (HK.out.row.lt k hk).2; omega)).base (Nat.zero_le _), fun k hk => .inr (by have := (HK.out.row.lt k hk).2; omega)⟩
     . have dn : decide (C.fl <= st.naks) = false := by simpa using hn
       have HQ := H_ (show ¬ (0 < C.fl /\ C.fl <= st.naks) from fun h => hn h.2); clear hf hn; refine hatN 0 rfl (by rintro W ⟨h1, h2⟩; go_simp; try rfl) HSv ?_; simp only [aZ, aC, aD]; refine hatN 1 rfl (by rintro W ⟨h1, h2⟩; go_simp; try rfl) HSv ?_; simp only [aZ, aC, aD]; refine hatN 2 rfl (by rintro W ⟨h1, h2⟩; go_simp; try rfl) HSv ?_; simp only [aZ, aC, aD]; refine hatN 3 rfl (by rintro W ⟨h1, h2⟩; go_simp; try rfl) HSv ?_; simp only [aZ, aC, aD]; refine hatN 4 rfl (by rintro W ⟨h1, h2⟩; go_simp; try rfl) HSv ?_; simp only [aZ, aC, aD]; refine hatN 5 rfl (by rintro W ⟨h1, h2⟩; go_simp; try rfl) HSv ?_; simp only [aZ, aC, aD]; refine hatN 6 rfl (by rintro W ⟨h1, h2⟩; go_simp; try rfl) HSv ?_; simp only [aZ, aC, aD]; refine hatN 7 rfl (by rintro W ⟨h1, h2⟩; go_simp; try rfl) HSv ?_; simp only [aZ, aC, aD]; refine hatN 8 rfl (by rintro W ⟨h1, h2⟩; go_simp; try rfl) HSv ?_; simp only [aZ, aC, aD]; refine hatN 9 rfl (by rintro W ⟨h1, h2⟩; go_simp; try rfl) HSv ?_; simp only [aZ, aC, aD]; refine hatN 10 rfl (by rintro W ⟨h1, h2⟩; go_simp; try rfl) HSv ?_; simp only [aZ, aC, aD]; refine hatN 11 rfl (by rintro W ⟨h1, h2⟩; go_simp; try rfl) HSv ?_; simp only [aZ, aC, aD]; refine hatN 12 rfl (by rintro W ⟨h1, h2⟩; go_simp; try rfl) HSv ?_; simp only [aZ, aC, aD]; refine hatN 13 rfl (by rintro W ⟨h1, h2⟩; go_simp; try rfl) HSv ?_; simp only [aZ, aC, aD]; refine hatN 14 rfl (by rintro W ⟨h1, h2⟩; go_simp; try rfl) HSv ?_; simp only [aZ, aC, aD]; refine hatN 15 rfl (by rintro W ⟨h1, h2⟩; go_simp; try rfl) HSv ?_; simp only [aZ, aC, aD]; refine hatN 16 rfl (by rintro W ⟨h1, h2⟩; go_simp; try rfl) HSv ?_; simp only [aZ, aC, aD]; refine hatN 17 rfl (by rintro W ⟨h1, h2⟩; go_simp; try rfl) HSv ?_; simp only [aZ, aC, aD]; refine wpAnyN_end 18 (by decide) rfl (by kernel_rfl) ?_; simp only [List.drop_succ_cons, List.drop_zero]; go_wp2_with fail; have k1 := keepC B W 13 (.int .i64 (wrap64 (st.naks + 1))); have h13 : NegAt (W.setCell ⟨B.nb, 13, none⟩ (.int .i64 (wrap64 (st.naks + 1)))) _ B C { st with naks := wrap64 (st.naks + 1) } X := HB.out.2.1.setC 13 _ rfl ⟨rfl, rfl, rfl, rfl, rfl⟩ HB.out.2.1.id; have y1 := (k1.block (w.heap.size + 1) (by have := HB.out.2.2.2.2.2; omega) (by omega)).trans HB.out.2.2.2.1; refine bodyPost_ret (results_cell_row rfl _ _ (w.heap.size + 1) 93 _ (0, 0) _ rfl (set4 y1 _ _ _ _) Tryz.underlying93 rfl pk_cells) rfl ?_; have hk4 := (keep4 (W.setCell ⟨B.nb, 13, none⟩ (.int .i64 (wrap64 (st.naks + 1)))) (w.heap.size + 1) (.int .i64 3) (.int .i64 pi) (.slice a2 ca.length k2) (.string ⟨#[]⟩)).drew
       have e : refuseS C st ⟨is, ⟨pc, pi, pl, pd⟩, 3, ca⟩ = ({ st with naks := wrap64 (st.naks + 1) }, ⟨3, pi, ca, noB⟩) := by
        unfold refuseS; rw [if_neg (by simp), if_neg HQ.out]
       rw [e]; have hkw := (Keep.of_below (fun b => b = B.nb) HB.out.1).trans k1; refine RefPost.fin ⟨X, h13⟩ hkw hk4 (vo := .slice a2 ca.length k2) ?_ rfl _ rfl; have hop : Opts w (fun b => ok b /\ b < w.heap.size) (.slice a2 ca.length k2) ca := Rec.old H.out.2.2.1.1; have hop2 := Rec.keep (Rec.keep hop hkw (fun b _ hb he => H.out.2.2.2.1 b hb.1 (.inl he))) hk4 (fun b _ hb he => by have := hb.2; omega); have hor := H.out.2.2.1.2.1; exact ⟨Rec.mono hop2 (fun b hb => .inl hb.1), (hor.keep hkw (fun k hk he => H.out.2.2.2.1 k (H.out.2.2.1.2.2 k hk) (.inl he))).keep hk4 (fun k hk he => by have := (hor.lt k hk).1; omega), fun k hk => .inl (H.out.2.2.1.2.2 k hk)⟩
   . have df : decide (0 < C.fl) = false := by simpa using hf
     have HQ := H_ (show ¬ (0 < C.fl /\ C.fl <= st.naks) from fun h => hf h.1); clear hf; refine hatN 0 rfl (by rintro W ⟨h1, h2⟩; go_simp; try rfl) HSv ?_; simp only [aZ, aC, aD]; refine hatN 1 rfl (by rintro W ⟨h1, h2⟩; go_simp; try rfl) HSv ?_; simp only [aZ, aC, aD]; refine hatN 2 rfl (by rintro W ⟨h1, h2⟩; go_simp; try rfl) HSv ?_; simp only [aZ, aC, aD]; refine hatN 3 rfl (by rintro W ⟨h1, h2⟩; go_simp; try rfl) HSv ?_; simp only [aZ, aC, aD]; refine hatN 4 rfl (by rintro W ⟨h1, h2⟩; go_simp; try rfl) HSv ?_; simp only [aZ, aC, aD]; refine hatN 5 rfl (by rintro W ⟨h1, h2⟩; go_simp; try rfl) HSv ?_; simp only [aZ, aC, aD]; refine hatN 6 rfl (by rintro W ⟨h1, h2⟩; go_simp; try rfl) HSv ?_; simp only [aZ, aC, aD]; refine wpAnyN_at 7 (v := undef) rfl (by kernel_rfl) (by kernel_rfl) (by kernel_rfl) (fun _ _ _ h => h) (Or.inr ⟨by rfl, rfl⟩) HSv ?_; simp only [aZ, aA, aE, aB, aC, aD]; refine wpAnyN_at 8 (v := undef) rfl (by kernel_rfl) (by kernel_rfl) (by kernel_rfl) (fun _ _ _ h => h) (Or.inr ⟨by rfl, rfl⟩) HSv ?_; simp only [aZ, aA, aE, aB, aC, aD]; refine wpAnyN_at 9 (v := undef) rfl (by kernel_rfl) (by kernel_rfl) (by kernel_rfl) (fun _ _ _ h => h) (Or.inr ⟨by rfl, rfl⟩) HSv ?_; simp only [aZ, aA, aE, aB, aC, aD]; refine wpAnyN_at 10 (v := undef) rfl (by kernel_rfl) (by kernel_rfl) (by kernel_rfl) (fun _ _ _ h => h) (Or.inr ⟨by rfl, rfl⟩) HSv ?_; simp only [aZ, aA, aE, aB, aC, aD]; refine wpAnyN_at 11 (v := undef) rfl (by kernel_rfl) (by kernel_rfl) (by kernel_rfl) (fun _ _ _ h => h) (Or.inr ⟨by rfl, rfl⟩) HSv ?_; simp only [aZ, aA, aE, aB, aC, aD]; refine wpAnyN_at 12 (v := undef) rfl (by kernel_rfl) (by kernel_rfl) (by kernel_rfl) (fun _ _ _ h => h) (Or.inr ⟨by rfl, rfl⟩) HSv ?_; simp only [aZ, aA, aE, aB, aC, aD]; refine wpAnyN_at 13 (v := undef) rfl (by kernel_rfl) (by kernel_rfl) (by kernel_rfl) (fun _ _ _ h => h) (Or.inr ⟨by rfl, rfl⟩) HSv ?_; simp only [aZ, aA, aE, aB, aC, aD]; refine wpAnyN_at 14 (v := undef) rfl (by kernel_rfl) (by kernel_rfl) (by kernel_rfl) (fun _ _ _ h => h) (Or.inr ⟨by rfl, rfl⟩) HSv ?_; simp only [aZ, aA, aE, aB, aC, aD]; refine wpAnyN_at 15 (v := undef) rfl (by kernel_rfl) (by kernel_rfl) (by kernel_rfl) (fun _ _ _ h => h) (Or.inr ⟨by rfl, rfl⟩) HSv ?_; simp only [aZ, aA, aE, aB, aC, aD]; refine wpAnyN_at 16 (v := undef) rfl (by kernel_rfl) (by kernel_rfl) (by kernel_rfl) (fun _ _ _ h => h) (Or.inr ⟨by rfl, rfl⟩) HSv ?_; simp only [aZ, aA, aE, aB, aC, aD]; refine hatN 17 rfl (by rintro W ⟨h1, h2⟩; go_simp; try rfl) HSv ?_; simp only [aZ, aC, aD]; refine wpAnyN_end 18 (by decide) rfl (by kernel_rfl) ?_; simp only [List.drop_succ_cons, List.drop_zero]; go_wp2_with fail; have k1 := keepC B W 13 (.int .i64 (wrap64 (st.naks + 1))); have h13 : NegAt (W.setCell ⟨B.nb, 13, none⟩ (.int .i64 (wrap64 (st.naks + 1)))) _ B C { st with naks := wrap64 (st.naks + 1) } X := HB.out.2.1.setC 13 _ rfl ⟨rfl, rfl, rfl, rfl, rfl⟩ HB.out.2.1.id; have y1 := (k1.block (w.heap.size + 1) (by have := HB.out.2.2.2.2.2; omega) (by omega)).trans HB.out.2.2.2.1; refine bodyPost_ret (results_cell_row rfl _ _ (w.heap.size + 1) 93 _ (0, 0) _ rfl (set4 y1 _ _ _ _) Tryz.underlying93 rfl pk_cells) rfl ?_; have hk4 := (keep4 (W.setCell ⟨B.nb, 13, none⟩ (.int .i64 (wrap64 (st.naks + 1)))) (w.heap.size + 1) (.int .i64 3) (.int .i64 pi) (.slice a2 ca.length k2) (.string ⟨#[]⟩)).drew
     have e : refuseS C st ⟨is, ⟨pc, pi, pl, pd⟩, 3, ca⟩ = ({ st with naks := wrap64 (st.naks + 1) }, ⟨3, pi, ca, noB⟩) := by
      unfold refuseS; rw [if_neg (by simp), if_neg HQ.out]
     rw [e]; have hkw := (Keep.of_below (fun b => b = B.nb) HB.out.1).trans k1; refine RefPost.fin ⟨X, h13⟩ hkw hk4 (vo := .slice a2 ca.length k2) ?_ rfl _ rfl; have hop : Opts w (fun b => ok b /\ b < w.heap.size) (.slice a2 ca.length k2) ca := Rec.old H.out.2.2.1.1; have hop2 := Rec.keep (Rec.keep hop hkw (fun b _ hb he => H.out.2.2.2.1 b hb.1 (.inl he))) hk4 (fun b _ hb he => by have := hb.2; omega); have hor := H.out.2.2.1.2.1; exact ⟨Rec.mono hop2 (fun b hb => .inl hb.1), (hor.keep hkw (fun k hk he => H.out.2.2.2.1 k (H.out.2.2.1.2.2 k hk) (.inl he))).keep hk4 (fun k hk he => by have := (hor.lt k hk).1; omega), fun k hk => .inl (H.out.2.2.1.2.2 k hk)⟩
 . have d1 : (cc != 3) = true := by simp [h3]
   obtain ⟨W, hW, hs, x0, x1, x2, hb⟩ := alloc3 w (.cells #[.bool is, .int .i64 pc, .int .i64 pi, .slice a1 pl.length k1, .string pd, .int .i64 cc, .slice a2 ca.length k2] 183 (0, 0)) (.cells #[.int .i64 cc, .int .i64 pi, .slice a2 ca.length k2, .string ⟨#[]⟩] 93 (0, 0)) (.cells #[.int .i64 cc, .int .i64 pi, .slice a2 ca.length k2, .string ⟨#[]⟩] 93 (0, 0)); have HB := H_ (A_ hb (A_ (H.out.1.old.below hb) (A_ x1 (A_ x2 hs)))); have HQ := H_ (show refuseS C st ⟨is, ⟨pc, pi, pl, pd⟩, cc, ca⟩ = (st, ⟨cc, pi, ca, noB⟩) from if_pos h3); clear h3 hs x0 x1 x2 hb; go_enter Tryz.func246, Tryz.ntmps246; go_wp2_with fail; rw [<- hW]; clear hW; refine bodyPost_ret (results_cell_row rfl _ _ (w.heap.size + 1) 93 _ (0, 0) _ rfl HB.out.2.2.1 Tryz.underlying93 rfl pk_cells) rfl ?_; have hk4 := Keep.refl (fun b => b = w.heap.size + 1) W; rw [HQ.out]; have hkw := (Keep.of_below (fun b => b = B.nb) HB.out.1); refine RefPost.fin ⟨X, HB.out.2.1⟩ hkw hk4 (vo := .slice a2 ca.length k2) ?_ rfl _ rfl; have hop : Opts w (fun b => ok b /\ b < w.heap.size) (.slice a2 ca.length k2) ca := Rec.old H.out.2.2.1.1; have hop2 := Rec.keep (Rec.keep hop hkw (fun b _ hb he => H.out.2.2.2.1 b hb.1 (.inl he))) hk4 (fun b _ hb he => by have := hb.2; omega); have hor := H.out.2.2.1.2.1; exact ⟨Rec.mono hop2 (fun b hb => .inl hb.1), (hor.keep hkw (fun k hk he => H.out.2.2.2.1 k (H.out.2.2.1.2.2 k hk) (.inl he))).keep hk4 (fun k hk he => by have := (hor.lt k hk).1; omega), fun k hk => .inl (H.out.2.2.1.2.2 k hk)⟩
end
section
variable (rej : Pk -> ByteArray) {w : World} {S ok : Nat -> Prop} {B : NegB} {C : NegC} {st : NSt} {X : NegX} (c : Came) (po pa : Value)
set_option maxRecDepth 100000 in
theorem say8 (h : NegAt w S B C st X) (hc : CameAt w B ok c po pa) :
 Calls Tryz.prog 227 #[.pointer (some ⟨B.nb, 0, none⟩), .int .i64 8, cameV c po pa] w fun e w' => SayPost w w' S ok B C (sayS rej C st 8 c) e := by
 have hb1 : Below w.heap.size w (w.alloc (.cells #[.bool c.is, .int .i64 c.p.code, .int .i64 c.p.id, po, .string c.p.d, .int .i64 c.code, pa] 183 (0, 0))) := (Below.refl _ _).alloc (Nat.le_refl _) _; have h1 := h.below hb1; have hR := refuse_at c po pa h1 (hc.below hb1); have hz := at1 w (.cells #[.bool c.is, .int .i64 c.p.code, .int .i64 c.p.id, po, .string c.p.d, .int .i64 c.code, pa] 183 (0, 0)); unfold cameV at hR; have HR := H_ hR; have HB := H_ hb1; have es : sayS rej C st 8 c = ((refuseS C st c).1, [(refuseS C st c).2]) := rfl; have hd0 : (refuseS C st c).2.d = noB := by unfold refuseS; repeat (first | rfl | split)
 have HD := H_ hd0; rw [es]; generalize refuseS C st c = r at HR HD; obtain ⟨st', p⟩ := r; have c0 := cellOf hz 0 _ rfl; have c1 := cellOf hz 1 _ rfl; have c2 := cellOf hz 2 _ rfl; have c3 := cellOf hz 3 _ rfl; have c4 := cellOf hz 4 _ rfl; have c5 := cellOf hz 5 _ rfl; have c6 := cellOf hz 6 _ rfl; unfold cameV; clear hb1 h h1 es hz hR hd0; go_enter Tryz.func227, Tryz.ntmps227; go_wp2_with fail; refine HR.out.mono ?_; rintro e w2 ⟨vo, rfl, ho, hn, hk⟩; have H2 := H_ (A_ ho (A_ hn hk)); clear ho hn hk; unfold pkV; go_wp2_with fail; go_ret; have hs1 := HB.out.size; have hs2 := H2.out.2.2.size; have hb3 := (Below.refl w2.heap.size w2).alloc (Nat.le_refl _) (.cells #[.int .i64 p.code, .int .i64 p.id, vo, .string p.d] 93 (0, 0)); refine ⟨_, rfl, PksAt.one p vo (at1 w2 _) (by omega) ?_ ⟨H2.out.1.2.1.below hb3, fun k hk => (H2.out.1.2.2 k hk).elim .inl (fun h => .inr (by omega))⟩, ?_, ?_⟩
 . exact Rec.mono (Opts.below H2.out.1.1 hb3) (fun b hb => hb.elim .inl (fun h => .inr (by omega)))
 . exact (H2.out.2.1.below hb3).mono (fun b hb => hb.elim .inl (fun h => .inr (by omega)))
 . exact ((Keep.of_below _ HB.out).trans H2.out.2.2).alloc _
end
theorem say_less (rej : Pk -> ByteArray) (B : NegB) (C : NegC) (ok : Nat -> Prop) (c : Came) (po pa : Value) (a : Int) (h0 : 0 <= a) (h1 : a <= 12) (h11 : a ≠ 11) : SaySpec rej B C ok c po pa a := by
 by_cases h : a = 8
 . subst h; intro w S st X h hc; exact say8 rej (ok := fun b => (8 : Int) = 8 /\ ok b) c po pa h ⟨hc.1, ⟨Rec.mono hc.2.1.1 (fun b hb => ⟨rfl, hb⟩), hc.2.1.2.1, fun k hk => ⟨rfl, hc.2.1.2.2 k hk⟩⟩, fun b hb => hc.2.2.1 b hb.2, hc.2.2.2⟩
 . exact say_most rej B C ok c po pa a h0 h1 h h11
structure Parted (w0 w : World) (S S' : Nat -> Prop) (B B' : NegB) : Prop where
 d1 : ∀ b, S b -> ¬ B'.t b
 d2 : ∀ b, S' b -> ¬ B.t b
 n1 : ∀ b, S b -> w0.heap.size <= b
 n2 : ∀ b, S' b -> w0.heap.size <= b
 bl : Below w0.heap.size w0 w
def Two (w0 w : World) (B B' : NegB) (C C' : NegC) (st st' : NSt) (jb jb' : Nat) : Prop :=
 ∃ S S', NegP w S B C st jb /\ NegP w S' B' C' st' jb' /\ Parted w0 w S S' B B'
section
variable {w0 w w' : World} {S S' : Nat -> Prop} {B B' : NegB} {C C' : NegC} {st st' st1 : NSt} {jb jb' : Nat}
end
def nameS (i k : Nat) : ByteArray := ⟨#[109, UInt8.ofNat (65 + i % 26), UInt8.ofNat (65 + i / 26 % 26), UInt8.ofNat (48 + k % 10), UInt8.ofNat (48 + k / 10 % 10), UInt8.ofNat (48 + k / 100 % 10)]⟩
set_option maxRecDepth 100000 in
theorem name_any (i k : Nat) (hi : i <= 250) (hk : k <= 400000) (w : World) :
 Calls Tryz.prog 242 #[.int .i64 i, .int .i64 k] w fun e w' => e = .returned (.string (nameS i k)) /\ Below w.heap.size w w' := by
 have hcv : (convert 200 9 (.slice (some ⟨w.heap.size, 0, none⟩) 6 6)).run Tryz.prog (w.alloc (.cells #[.int .u8 109, .int .u8 (65 + (i : Int) % 26), .int .u8 (65 + (i : Int) / 26 % 26), .int .u8 (48 + (k : Int) % 10), .int .u8 (48 + (k : Int) / 10 % 10), .int .u8 (48 + (k : Int) / 100 % 10)] 5 (0, 0))) =
  .ok (.string (nameS i k)) (w.alloc (.cells #[.int .u8 109, .int .u8 (65 + (i : Int) % 26), .int .u8 (65 + (i : Int) / 26 % 26), .int .u8 (48 + (k : Int) % 10), .int .u8 (48 + (k : Int) / 10 % 10), .int .u8 (48 + (k : Int) / 100 % 10)] 5 (0, 0))) := by
  have hx := at1 w (.cells #[.int .u8 109, .int .u8 (65 + (i : Int) % 26), .int .u8 (65 + (i : Int) / 26 % 26), .int .u8 (48 + (k : Int) % 10), .int .u8 (48 + (k : Int) / 10 % 10), .int .u8 (48 + (k : Int) / 100 % 10)] 5 (0, 0)); refine run_convert_bytes_back (P := Tryz.prog) _ 200 9 5 ⟨w.heap.size, 0, none⟩ 6 [109, UInt8.ofNat (65 + i % 26), UInt8.ofNat (65 + i / 26 % 26), UInt8.ofNat (48 + k % 10), UInt8.ofNat (48 + k / 10 % 10), UInt8.ofNat (48 + k / 100 % 10)] Tryz.underlying200 Tryz.underlying5 Tryz.underlying9 (fun j hj => ?_); rw [Addr.add_lit, Nat.zero_add]; have e1 : ((UInt8.ofNat (65 + i % 26)).toNat : Int) = 65 + (i : Int) % 26 := by rw [UInt8.toNat_ofNat']; omega
  have e2 : ((UInt8.ofNat (65 + i / 26 % 26)).toNat : Int) = 65 + (i : Int) / 26 % 26 := by rw [UInt8.toNat_ofNat']; omega
  have e3 : ((UInt8.ofNat (48 + k % 10)).toNat : Int) = 48 + (k : Int) % 10 := by rw [UInt8.toNat_ofNat']; omega
  have e4 : ((UInt8.ofNat (48 + k / 10 % 10)).toNat : Int) = 48 + (k : Int) / 10 % 10 := by rw [UInt8.toNat_ofNat']; omega
  have e5 : ((UInt8.ofNat (48 + k / 100 % 10)).toNat : Int) = 48 + (k : Int) / 100 % 10 := by rw [UInt8.toNat_ofNat']; omega
  match j, hj with
  | 0, _ => exact cellOf hx 0 _ (by simp)
  | 1, _ => simp only [List.getElem_cons_zero, List.getElem_cons_succ]; rw [e1]; exact cellOf hx 1 _ (by simp)
  | 2, _ => simp only [List.getElem_cons_zero, List.getElem_cons_succ]; rw [e2]; exact cellOf hx 2 _ (by simp)
  | 3, _ => simp only [List.getElem_cons_zero, List.getElem_cons_succ]; rw [e3]; exact cellOf hx 3 _ (by simp)
  | 4, _ => simp only [List.getElem_cons_zero, List.getElem_cons_succ]; rw [e4]; exact cellOf hx 4 _ (by simp)
  | 5, _ => simp only [List.getElem_cons_zero, List.getElem_cons_succ]; rw [e5]; exact cellOf hx 5 _ (by simp)
 go_enter Tryz.func242, Tryz.ntmps242; go_wp2_with fail; go_ret; exact ⟨rfl, (Below.refl _ _).alloc (Nat.le_refl _) _⟩
def mkO (i j : Nat) : List Value := [.int .i64 (-1 - (i : Int)), .string (nameS i j)]
theorem mkO_len (i j : Nat) : (mkO i j).length = 2 := rfl
theorem mkO_one (i j : Nat) : ∀ u ∈ mkO i j, u.oneCell' = true := by
 intro u hu; simp only [mkO, List.mem_cons, List.not_mem_nil, or_false] at hu
 rcases hu with rfl | rfl <;> rfl
def oV (l : List Opt) : List Value := (optL l).flatten
theorem oV_len (l : List Opt) : (oV l).length = l.length * 2 := by
 unfold oV; rw [flatten_len _ (optL_k l), optL_len]
theorem oV_app (a b : List Opt) : oV (a ++ b) = oV a ++ oV b := by simp [oV, optL]
theorem oV_one (l : List Opt) : ∀ u ∈ oV l, u.oneCell' = true := by
 intro u hu; simp only [oV, List.mem_flatten, optL, List.mem_map] at hu; obtain ⟨_, ⟨o, _, rfl⟩, hu⟩ := hu; simp only [Opt.cells, List.mem_cons, List.not_mem_nil, or_false] at hu
 rcases hu with rfl | rfl <;> rfl
theorem oV_at : ∀ (xs : List Opt) (j : Nat) (h : j < xs.length), (oV xs)[j * 2]? = some (.int .i64 xs[j].t) /\ (oV xs)[j * 2 + 1]? = some (.string xs[j].v) := by
 intro xs
 induction xs with
 | nil => intro j h; exact absurd h (Nat.not_lt_zero _)
 | cons x xs ih =>
  intro j h; have e : oV (x :: xs) = .int .i64 x.t :: .string x.v :: oV xs := rfl; rw [e]
  cases j with
  | zero => exact ⟨rfl, rfl⟩
  | succ j =>
   have := ih j (by simpa using h); rw [show (j + 1) * 2 = j * 2 + 2 by omega]; exact this
theorem opt_row : RowT Tryz.prog 62 91 2 24 where
 ht := Tryz.underlying62
 hi := by
  have h : (Tryz.prog.info? 91).map (fun i => (i.zero, i.size, i.bytes)) = some (some (.agg #[.int .i64 0, .string ⟨#[]⟩]), 2, 24) := by kernel_rfl
  obtain ⟨i, hi, he⟩ := Option.map_eq_some_iff.1 h; simp only [Prod.mk.injEq] at he; exact ⟨i, _, hi, he.1, he.2.1, he.2.2, rfl⟩
 hk := by decide
 hb := by decide
theorem opts_row : RowT Tryz.prog 27 62 1 24 where
 ht := Tryz.underlying27
 hi := by
  have h : (Tryz.prog.info? 62).map (fun i => (i.zero, i.size, i.bytes)) = some (some (.slice none 0 0), 1, 24) := by kernel_rfl
  obtain ⟨i, hi, he⟩ := Option.map_eq_some_iff.1 h; simp only [Prod.mk.injEq] at he; exact ⟨i, _, hi, he.1, he.2.1, he.2.2, rfl⟩
 hk := by decide
 hb := by decide
set_option maxRecDepth 100000 in
theorem markO_any (i f n : Nat) (hi : i <= 250) (hf : f <= 200000) (hn : n <= 200000) (w : World) :
 Calls Tryz.prog 207 #[.int .i64 i, .int .i64 f, .int .i64 n] w fun e w' => ∃ v, e = .returned v /\ Laid 91 2 w w' v n (marksC mkO i f n) := by
 go_enter Tryz.func207, Tryz.ntmps207; go_wp2_with fail
 go_loopg [7, 8] n (fun x out kk wr => ∃ j : Nat, j <= n /\ x = n - j /\ kk = .int .i64 ((f + j : Nat) : Int) /\ Hid (Laid 91 2 w wr out j (marksC mkO i f j)))
 case atStart => exact ⟨0, by omega, by omega, rfl, BRow.nil _ _ _, Below.refl _ _, fun g h => by cases h⟩
 case round =>
  obtain ⟨j, hj, rfl, rfl, hK⟩ := hrel; have HK := H_ hK.out; clear hK; obtain ⟨so, co, eo, -, -⟩ := HK.out.r.form; subst eo
  by_cases hjn : j < n
  . have hv : wrap64 (-1 - (i : Int)) = -1 - (i : Int) := by
     unfold wrap64; omega
    go_wp2_with (first
     | (
      go_at_call 242; refine (name_any i (f + j) hi (by omega) _).mono ?_; rintro e w2 ⟨rfl, h2⟩; have H2 := H_ h2
      clear h2)
     | (
      at_builtin; refine wpl_append_rec opt_row rfl _ _ rfl _ j (marksC mkO i f j) rfl (HK.out.r.below (H2.out.trans ((b1 _ _).mono H2.out.size))) _ _ (mkO i (f + j)) rfl (cell_of_at _ _ _ rfl) rfl (mkO_one _ _) (by omega) ?_
      intro g cap w6 h6 k6 o6; have H6 := H_ (A_ h6 (A_ k6 o6))
      clear h6 k6 o6))
    go_roundg (n - (j + 1))
    case measure => omega
    case rel =>
     refine ⟨j + 1, by omega, rfl, by go_num, ?_⟩; rw [marksC_snoc]; exact HK.out.app (H2.out.trans ((b1 _ _).mono H2.out.size)) H6.out.1 H6.out.2.1 (H6.out.2.2.imp (fun h => h.symm) (fun h => by rw [h]; rfl))
  . obtain rfl : n = j := by omega
    go_wp2_with fail; go_ret; exact ⟨_, rfl, HK.out⟩
set_option maxRecDepth 100000 in
theorem copyO_any (v : Value) (n : Nat) (us : List Value) (w : World) (hr : RowR w v n us) (hnil : ∀ n c, v = .slice none n c -> c = 0) (hul : us.length = n * 2) (h1 : ∀ u ∈ us, u.oneCell' = true) (hlen : n <= 1000000) :
 Calls Tryz.prog 155 #[v] w fun e w' => ∃ v', e = .returned v' /\ Laid 91 2 w w' v' n us := by
 obtain ⟨sa, c, rfl, hc, hm⟩ := hr.form; have H := H_ (A_ hr (A_ hnil (A_ hul h1))); clear hr hnil hul h1; go_enter Tryz.func155, Tryz.ntmps155
 go_wp2_with (
  at_builtin; refine wpl_append_row opt_row rfl _ _ rfl _ 0 [] rfl (BRow.nil _ _ _) _ n us rfl H.out.1 H.out.2.1 H.out.2.2.1 H.out.2.2.2 (by omega) ?_
  intro v6 w6 h6 o6 k6 p6; have H6 := H_ (A_ h6 (A_ k6 p6))
  clear h6 o6 k6 p6)
 go_ret; have h6 := H6.out.1; rw [Nat.zero_add, List.nil_append] at h6; exact ⟨_, rfl, Laid.app (T := 91) (k := 2) (w := w) ⟨BRow.nil _ _ _, Below.refl _ _, fun g h => by cases h⟩ (Below.refl _ _) h6 H6.out.2.1 H6.out.2.2⟩
theorem RowR_opt {w : World} {sa : Option Addr} {m c n : Nat} {xs : List Opt} (h : RowR w (.slice sa m c) n (oV xs)) (j : Nat) (hj : j < xs.length) :
 ∃ g, sa = some ⟨g, 0, none⟩ /\ g < w.heap.size /\ w.cell? ⟨g, j * 2, none⟩ = some (.int .i64 xs[j].t) /\ w.cell? ⟨g, j * 2 + 1, none⟩ = some (.string xs[j].v) := by
 obtain ⟨h0, h1⟩ := oV_at xs j hj; obtain ⟨g, e1, e2, e3⟩ := h.get h0; obtain ⟨g', e1', e2', e3'⟩ := h.get h1; rw [e1] at e1'; cases e1'
 exact ⟨g, e1, e2, e3, e3'⟩
theorem eqOb (a b : Int) (s t : ByteArray) (w : World) : (binOp .eql 91 (.agg #[.int .i64 a, .string s]) (.agg #[.int .i64 b, .string t])).run Tryz.prog w = .ok (.bool (decide (a = b) && decide (s = t))) w := by
 have u3 := Tryz.underlying3; have a3 := Tryz.isAgg3; have z3 := Tryz.sizeOf3; have u9 := Tryz.underlying9; have a9 := Tryz.isAgg9; have z9 := Tryz.sizeOf9; have hS : Tryz.prog.underlying 91 = some (.struct (Tryz.prog.fieldsOf 91)) := by kernel_rfl
 have hp : Tryz.prog.stoodInHeld 91 = false := by kernel_rfl
 rw [run_eql_struct, show (10000 : Nat) = 9999 + 1 from rfl, run_equalIn_agg w 9999 91 _ _ hS hp]; simp only [Program.fieldsOf, Tryz.underlying91]; go_simp
 by_cases h1 : a = b <;> by_cases h2 : s = t <;> simp [h1, h2]
 intro h; rw [ByteArray.toList_eq, ByteArray.toList_eq] at h; exact h2 (ByteArray.ext (Array.ext' h))
set_option maxRecDepth 100000 in
theorem sameO_any (xs ys : List Opt) (a b : Value) (w : World) (ha : RowR w a xs.length (oV xs)) (hb : RowR w b ys.length (oV ys)) (hl : xs.length <= 1000000) (hl' : ys.length <= 1000000) :
 Calls Tryz.prog 30 #[a, b] w fun e w' => (∃ y : Bool, e = .returned (.bool y) /\ (y = true ↔ xs = ys)) /\ Below w.heap.size w w' := by
 obtain ⟨sa, c, rfl, hc, hm⟩ := ha.form; obtain ⟨sb, d, rfl, hd, hn⟩ := hb.form
 by_cases hxy : xs.length = ys.length
 case neg =>
  have H : Hid (∀ y : Bool, y = false -> (y = true ↔ xs = ys)) := H_ (fun y h => ⟨fun h1 => absurd (h1.symm.trans h) (by decide), fun h1 => absurd (by rw [h1]) hxy⟩); clear ha hb; generalize xs.length = n1 at *; generalize ys.length = n2 at *; go_enter Tryz.func30, Tryz.ntmps30; go_wp2_with fail; go_ret; exact ⟨⟨_, rfl, H.out _ rfl⟩, Below.refl _ _⟩
 case pos =>
 rw [<- hxy] at hb hd hl' ⊢; obtain ⟨len, hln⟩ : ∃ len, len = xs.length := ⟨_, rfl⟩; have HLN := H_ (A_ hln hxy); rw [<- hln] at ha hb hc hd hl ⊢; have H := H_ (A_ ha hb); clear hln ha hb hxy hl'; go_enter Tryz.func30, Tryz.ntmps30; go_wp2_with fail
 go_loopg [5] len (fun x i wr => ∃ k : Nat, k <= len /\ x = len - k /\ i = .int .i64 k /\ Hid (Below w.heap.size w wr /\ ∀ j (h1 : j < xs.length) (h2 : j < ys.length), j < k -> xs[j] = ys[j]))
 case atStart => exact ⟨0, by omega, by omega, rfl, Below.refl _ _, fun j _ _ h => absurd h (Nat.not_lt_zero _)⟩
 case round =>
  obtain ⟨k, hk, rfl, rfl, hK⟩ := hrel; have HK := H_ hK.out; clear hK
  by_cases hkl : k < len
  . have h1 : k < xs.length := by have := HLN.out.1; omega
    have h2 : k < ys.length := by have := HLN.out.2; omega
    obtain ⟨g, rfl, hg, c0, c1⟩ := RowR_opt H.out.1 k h1; obtain ⟨g', rfl, hg', c2, c3⟩ := RowR_opt H.out.2 k h2; have d0 : wr.cell? ⟨g, k * 2, none⟩ = _ := (HK.out.1.cell (p := ⟨g, k * 2, none⟩) hg).trans c0; have d1 : wr.cell? ⟨g, k * 2 + 1, none⟩ = _ := (HK.out.1.cell (p := ⟨g, k * 2 + 1, none⟩) hg).trans c1; have d2 : wr.cell? ⟨g', k * 2, none⟩ = _ := (HK.out.1.cell (p := ⟨g', k * 2, none⟩) hg').trans c2; have d3 : wr.cell? ⟨g', k * 2 + 1, none⟩ = _ := (HK.out.1.cell (p := ⟨g', k * 2 + 1, none⟩) hg').trans c3
    have HEQ : Hid (∀ y : Bool, (y = true ↔ (xs[k].t = ys[k].t /\ xs[k].v = ys[k].v)) -> (y = true -> xs[k] = ys[k]) /\ (y = false -> ∀ y' : Bool, y' = false -> (y' = true ↔ xs = ys))) := H_ (by
     intro y hy; refine ⟨fun h => ?_, fun h y' hy' => ⟨fun h3 => absurd (h3.symm.trans hy') (by decide), fun h3 => ?_⟩⟩
     . obtain ⟨e1, e2⟩ := hy.1 h; generalize xs[k] = x at *; generalize ys[k] = z at *; obtain ⟨x1, x2⟩ := x; obtain ⟨z1, z2⟩ := z; simp only at e1 e2
       rw [e1, e2]
     . subst h3
       exact absurd ((hy.2 ⟨rfl, rfl⟩).symm.trans h) (by decide))
    clear c0 c1 c2 c3; generalize hx0 : xs[k].t = t at d0 HEQ; generalize hx1 : xs[k].v = v at d1 HEQ; generalize hx2 : ys[k].t = t' at d2 HEQ; generalize hx3 : ys[k].v = v' at d3 HEQ; obtain ⟨y, hy⟩ : ∃ y : Bool, y = (decide (t = t') && decide (v = v')) := ⟨_, rfl⟩; have HE := H_ (HEQ.out y (by rw [hy]; simp)); have hn : ∀ w, (binOp .eql 91 (.agg #[.int .i64 t, .string v]) (.agg #[.int .i64 t', .string v'])).run Tryz.prog w = .ok (.bool y) w := fun w => by rw [eqOb, hy]
    clear hy hx0 hx1 hx2 hx3 HEQ
    cases y with
    | true =>
     go_wp2_with fail
     go_quiet (fail)
     go_wp2_with fail
     go_roundg (len - (k + 1))
     case measure => omega
     case rel =>
      refine ⟨k + 1, by omega, rfl, by go_num, ⟨HK.out.1.os, HK.out.1.tape, HK.out.1.output, HK.out.1.size, HK.out.1.block⟩, fun j h3 h4 h5 => ?_⟩
      rcases Nat.lt_or_ge j k with h | h
      . exact HK.out.2 j h3 h4 h
      . obtain rfl : j = k := by omega
        exact HE.out.1 (by first | exact trivial | rfl)
    | false =>
     go_wp2_with fail
     go_quiet (fail)
     go_wp2_with fail; go_ret; exact ⟨⟨_, rfl, HE.out.2 (by first | exact trivial | rfl) _ rfl⟩, ⟨HK.out.1.os, HK.out.1.tape, HK.out.1.output, HK.out.1.size, HK.out.1.block⟩⟩
  . go_wp2_with fail; go_ret; refine ⟨⟨_, rfl, fun _ => ?_, fun _ => rfl⟩, HK.out.1⟩; have e1 := HLN.out.1; have e2 := HLN.out.2; exact List.ext_getElem e2 fun j h3 h4 => HK.out.2 j h3 h4 (by omega)
theorem sameO_true (xs : List Opt) (a b : Value) (w : World) (ha : RowR w a xs.length (oV xs)) (hb : RowR w b xs.length (oV xs)) (hl : xs.length <= 1000000) :
 Calls Tryz.prog 30 #[a, b] w fun e w' => e = .returned (.bool true) /\ Below w.heap.size w w' :=
 (sameO_any xs xs a b w ha hb hl hl).mono fun e w' ⟨⟨y, he, hy⟩, hb⟩ => ⟨by rw [he, hy.2 rfl], hb⟩
def mlistO (i f n : Nat) : List Opt := (List.range n).map fun (j : Nat) => ⟨-1 - (i : Int), nameS i (f + j)⟩
theorem mlistO_len (i f n : Nat) : (mlistO i f n).length = n := by simp [mlistO]
theorem mlistO_V (i f n : Nat) : marksC mkO i f n = oV (mlistO i f n) := by
 induction n with
 | zero => rfl
 | succ n ih => rw [marksC_snoc, ih]; simp [mlistO, List.range_succ, oV, optL, mkO, Opt.cells]
theorem opts_ne : (62 : TypeId) ≠ 91 := by decide
set_option maxRecDepth 100000 in
theorem stillO_any (D : KD) (bb : Nat) (w : World) (h : ShelfV 91 62 2 w D) (c1 : w.cell? ⟨bb, 8, none⟩ = some D.v1) (c2 : w.cell? ⟨bb, 9, none⟩ = some D.v2) (hbb : bb < w.heap.size)
 (he : ∀ i, i < D.n -> ∃ xs : List Opt, xs.length = D.m i /\ D.cs i = oV xs /\ D.ds i = oV xs) :
 Calls Tryz.prog 72 #[.pointer (some ⟨bb, 0, none⟩)] w fun e w' => e = .returned (.bool true) /\ Below w.heap.size w w' := by
 obtain ⟨v1, v2, n, X, Y, m, cs, ds⟩ := D; simp only at c1 c2 he
 obtain ⟨s1, k1, e1, hc1, hm1⟩ := h.x.r.form; obtain ⟨s2, k2, e2, hc2, hm2⟩ := h.y.r.form; simp only at e1 e2 hc1 hc2
 subst e1 e2; have hn := h.hn; simp only at hn
 have H := H_ (A_ h (A_ c1 (A_ c2 (A_ hbb he)))); clear h hbb he; go_enter Tryz.func72, Tryz.ntmps72; go_wp2_with fail
 go_loopg [3] n (fun x i wr => ∃ k : Nat, k <= n /\ x = n - k /\ i = .int .i64 k /\ Hid (Below w.heap.size w wr))
 case atStart => exact ⟨0, by omega, by omega, rfl, Below.refl _ _⟩
 case round =>
  obtain ⟨k, hk, rfl, rfl, hK⟩ := hrel; have HK := H_ hK.out; clear hK; have d1 : wr.cell? ⟨bb, 8, none⟩ = _ := (HK.out.cell (p := ⟨bb, 8, none⟩) H.out.2.2.2.1).trans c1
  by_cases hkn : k < n
  . obtain ⟨g, rfl, hg, c0⟩ := H.out.1.x.r.rd.at k (by simpa using hkn); obtain ⟨g', rfl, hg', c0'⟩ := H.out.1.y.r.rd.at k (by simpa using hkn); simp only [List.getElem_map, List.getElem_range] at c0 c0'; obtain ⟨xs, hxs, hx1, hx2⟩ := H.out.2.2.2.2 k hkn; have hr1 := (H.out.1.x.e k hkn).rd; have hr2 := (H.out.1.y.e k hkn).rd; have hle := H.out.1.le k hkn; simp only at hr1 hr2 hle
    rw [hx1] at hr1; rw [hx2] at hr2; generalize m k = mk at *; subst hxs; generalize hXk : X k = x1 at *; generalize hYk : Y k = y1 at *; obtain ⟨sx, cx, rfl, -, -⟩ := hr1.form; obtain ⟨sy, cy, rfl, -, -⟩ := hr2.form
    have HS : Hid (∀ W, Below wr.heap.size wr W -> W.cell? ⟨bb, 8, none⟩ = some (.slice (some ⟨g, 0, none⟩) n k1) /\ W.cell? ⟨bb, 9, none⟩ = some (.slice (some ⟨g', 0, none⟩) n k2) /\ W.cell? ⟨g, k, none⟩ = some (.slice sx xs.length cx) /\ W.cell? ⟨g', k, none⟩ = some (.slice sy xs.length cy)) :=
     H_ fun W hW =>
      have hb := HK.out.trans (hW.mono HK.out.size)
      ⟨(hb.cell (p := ⟨bb, 8, none⟩) H.out.2.2.2.1).trans c1, (hb.cell (p := ⟨bb, 9, none⟩) H.out.2.2.2.1).trans c2, (hb.cell (p := ⟨g, k, none⟩) hg).trans c0, (hb.cell (p := ⟨g', k, none⟩) hg').trans c0'⟩
    have HR := H_ (fun (W : World) (hW : Below wr.heap.size wr W) => sameO_true xs _ _ W ((hr1.below HK.out).below hW) ((hr2.below HK.out).below hW) (by omega)); clear hr1 hr2 c0 c0' hx1 hx2; go_wp2_with fail; refine wp_region_H (rgH 0 16) (fun Y : World => Y.cell? ⟨bb, 8, none⟩ = some (.slice (some ⟨g, 0, none⟩) n k1) /\ Y.cell? ⟨bb, 9, none⟩ = some (.slice (some ⟨g', 0, none⟩) n k2) /\ Y.cell? ⟨g, k, none⟩ = some (.slice sx xs.length cx) /\ Y.cell? ⟨g', k, none⟩ = some (.slice sy xs.length cy)) (by kernel_rfl) ?_; have HSv := HS.out wr.drew (Below.refl _ _).drew; refine hatH 0 rfl (by rintro W ⟨h0, h1, h2, h3⟩; go_simp; try rfl) HSv ?_; simp only [aZ, aC, aD]; refine hatH 1 rfl (by rintro W ⟨h0, h1, h2, h3⟩; go_simp; try rfl) HSv ?_; simp only [aZ, aC, aD]; refine hatH 2 rfl (by rintro W ⟨h0, h1, h2, h3⟩; go_simp; try rfl) HSv ?_; simp only [aZ, aC, aD]; refine hatH 3 rfl (by rintro W ⟨h0, h1, h2, h3⟩; go_simp; try rfl) HSv ?_; simp only [aZ, aC, aD]; refine hatH 4 rfl (by rintro W ⟨h0, h1, h2, h3⟩; go_simp; try rfl) HSv ?_; simp only [aZ, aC, aD]; refine hatH 5 rfl (by rintro W ⟨h0, h1, h2, h3⟩; go_simp; try rfl) HSv ?_; simp only [aZ, aC, aD]; refine hatH 6 rfl (by rintro W ⟨h0, h1, h2, h3⟩; go_simp; try rfl) HSv ?_; simp only [aZ, aC, aD]; refine hatH 7 rfl (by rintro W ⟨h0, h1, h2, h3⟩; go_simp; try rfl) HSv ?_; simp only [aZ, aC, aD]; refine hatH 8 rfl (by rintro W ⟨h0, h1, h2, h3⟩; go_simp; try rfl) HSv ?_; simp only [aZ, aC, aD]; refine hatH 9 rfl (by rintro W ⟨h0, h1, h2, h3⟩; go_simp; try rfl) HSv ?_; simp only [aZ, aC, aD]; refine hatH 10 rfl (by rintro W ⟨h0, h1, h2, h3⟩; go_simp; try rfl) HSv ?_; simp only [aZ, aC, aD]; refine hatH 11 rfl (by rintro W ⟨h0, h1, h2, h3⟩; go_simp; try rfl) HSv ?_; simp only [aZ, aC, aD]; refine hatH 12 rfl (by rintro W ⟨h0, h1, h2, h3⟩; go_simp; try rfl) HSv ?_; simp only [aZ, aC, aD]; refine hatH 13 rfl (by rintro W ⟨h0, h1, h2, h3⟩; go_simp; try rfl) HSv ?_; simp only [aZ, aC, aD]; refine hone 14 rfl fun K hK => ?_
    try go_simp
    go_at_call 30; refine (HR.out wr.drew (Below.refl _ _).drew).mono ?_; rintro e W3 ⟨rfl, hb3⟩; have HB3 := H_ (show Below wr.heap.size wr W3 from Below.trans (Below.refl _ _).drew hb3); have HSv := HS.out W3 HB3.out; clear hb3; refine hK _ _ (fun _ => HSv) ?_
    try simp only [aZ, aA, aE, aB, aC, aD]
    refine hatH 15 rfl (by rintro W ⟨h0, h1, h2, h3⟩; go_simp; try rfl) HSv ?_; simp only [aZ, aC, aD]; refine hend 16 ?_; simp only [aF, aG]; go_wp2_with fail
    go_roundg (n - (k + 1))
    case measure => omega
    case rel => exact ⟨k + 1, by omega, rfl, by go_num, HK.out.trans (HB3.out.mono HK.out.size)⟩
  . go_wp2_with fail; go_ret; exact ⟨rfl, HK.out⟩
set_option maxRecDepth 100000 in
theorem markedO_any (l : Value) (n : Nat) (G : Nat -> Value) (m : Nat -> Nat) (w : World) (hl : RowR w l n ((List.range n).map G)) (hn : n <= 250) (hG : ∀ i, i < n -> RowR w (G i) (m i) (marksC mkO i 0 (m i)) /\ m i <= 200000) :
 Calls Tryz.prog 126 #[l] w fun e w' => e = .returned (.bool true) /\ Below w.heap.size w w' := by
 obtain ⟨sa, c, rfl, hc, hm⟩ := hl.form; have H := H_ (A_ hl hG); clear hl hG; go_enter Tryz.func126, Tryz.ntmps126; go_wp2_with fail
 go_loopg [3] n (fun x i wr => ∃ k : Nat, k <= n /\ x = n - k /\ i = .int .i64 k /\ Hid (Below w.heap.size w wr))
 case atStart => exact ⟨0, by omega, by omega, rfl, Below.refl _ _⟩
 case round =>
  obtain ⟨k, hk, rfl, rfl, hK⟩ := hrel; have HK := H_ hK.out; clear hK
  by_cases hkn : k < n
  . obtain ⟨g, rfl, hg, c0⟩ := H.out.1.at k (by simpa using hkn); simp only [List.getElem_map, List.getElem_range] at c0; obtain ⟨hr, hmk⟩ := H.out.2 k hkn; generalize hGk : G k = x at *; obtain ⟨sk, ck, rfl, hck, hcm⟩ := hr.form; have HS : Hid (∀ W, Below wr.heap.size wr W -> W.cell? ⟨g, k, none⟩ = some (.slice sk (m k) ck)) := H_ fun W hW => (hW.cell (p := ⟨g, k, none⟩) (Nat.lt_of_lt_of_le hg HK.out.size)).trans ((HK.out.cell (p := ⟨g, k, none⟩) hg).trans c0); have HR := H_ (hr.below HK.out); clear hr c0; generalize m k = mk at *; go_wp2_with fail; refine wp_region_H (rgH 0 13) (fun Y : World => Y.cell? ⟨g, k, none⟩ = some (.slice sk mk ck)) (by kernel_rfl) ?_; have HSv := HS.out wr.drew (Below.refl _ _).drew; refine hatH 0 rfl (by rintro W h0; go_simp; try rfl) HSv ?_; simp only [aZ, aC, aD]; refine hatH 1 rfl (by rintro W h0; go_simp; try rfl) HSv ?_; simp only [aZ, aC, aD]; refine hatH 2 rfl (by rintro W h0; go_simp; try rfl) HSv ?_; simp only [aZ, aC, aD]; refine hatH 3 rfl (by rintro W h0; go_simp; try rfl) HSv ?_; simp only [aZ, aC, aD]; refine hatH 4 rfl (by rintro W h0; go_simp; try rfl) HSv ?_; simp only [aZ, aC, aD]; refine hatH 5 rfl (by rintro W h0; go_simp; try rfl) HSv ?_; simp only [aZ, aC, aD]; refine hatH 6 rfl (by rintro W h0; go_simp; try rfl) HSv ?_; simp only [aZ, aC, aD]; refine hatH 7 rfl (by rintro W h0; go_simp; try rfl) HSv ?_; simp only [aZ, aC, aD]; refine hatH 8 rfl (by rintro W h0; go_simp; try rfl) HSv ?_; simp only [aZ, aC, aD]; refine hatH 9 rfl (by rintro W h0; go_simp; try rfl) HSv ?_; simp only [aZ, aC, aD]; refine hone 10 rfl fun K hK => ?_
    try go_simp
    go_at_call 207; refine (markO_any k 0 mk (by omega) (by omega) (by omega) _).mono ?_; rintro e W2 ⟨v2, rfl, h2⟩; have HB2 := H_ (show Below wr.heap.size wr W2 from Below.trans (Below.refl _ _).drew h2.b); have HSv := HS.out W2 HB2.out; have H2 := H_ h2.r; clear h2; refine hK _ _ (fun _ => HSv) ?_
    try simp only [aZ, aA, aE, aB, aC, aD]
    refine hone 11 rfl fun K hK => ?_
    try go_simp
    go_at_call 30; refine (sameO_true (mlistO k 0 mk) _ _ _ (by rw [mlistO_len, <- mlistO_V]; exact HR.out.below HB2.out) (by rw [mlistO_len, <- mlistO_V]; exact H2.out.rd) (by rw [mlistO_len]; omega)).mono ?_; rintro e W3 ⟨rfl, hb3⟩; have HB3 := H_ (HB2.out.trans (hb3.mono HB2.out.size)); have HSv := HS.out W3 HB3.out; clear hb3; refine hK _ _ (fun _ => HSv) ?_
    try simp only [aZ, aA, aE, aB, aC, aD]
    refine hatH 12 rfl (by rintro W h0; go_simp; try rfl) HSv ?_; simp only [aZ, aC, aD]; refine hend 13 ?_; simp only [aF, aG]; go_wp2_with fail
    go_roundg (n - (k + 1))
    case measure => omega
    case rel => exact ⟨k + 1, by omega, rfl, by go_num, HK.out.trans (HB3.out.mono HK.out.size)⟩
  . go_wp2_with fail; go_ret; exact ⟨rfl, HK.out⟩
set_option maxRecDepth 100000 in
theorem putO_any (v : Value) (n : Nat) (X : Nat -> Value) (m : Nat -> Nat) (cs : Nat -> List Value) (bb : Nat) (w : World) (h : XV 91 62 2 w v n X m cs) (c1 : w.cell? ⟨bb, 8, none⟩ = some v) (hbb : bb < w.heap.size) (hv : v.ownBlock ≠ some bb) (hne : ∀ i, i < n -> (X i).ownBlock ≠ some bb)
 (hn : n <= 250) (hm : ∀ i, i < n -> m i <= 100000) :
 Calls Tryz.prog 94 #[.pointer (some ⟨bb, 0, none⟩)] w fun e w' => (∃ r, e = .returned r) /\ PutI 91 62 2 mkO w w' v n X m cs n := by
 obtain ⟨s1, k1, e1, hc1, hm1⟩ := h.r.form; subst e1; have H := H_ (A_ h (A_ c1 (A_ hbb (A_ hne hm)))); clear h hbb hne hm; go_enter Tryz.func94, Tryz.ntmps94; go_wp2_with fail
 go_loopg [2] n (fun x i wr => ∃ k : Nat, k <= n /\ x = n - k /\ i = .int .i64 k /\ Hid (PutI 91 62 2 mkO w wr (.slice s1 n k1) n X m cs k))
 case atStart => exact ⟨0, by omega, by omega, rfl, ⟨H.out.1.cong (fun i _ => by unfold mixC; rw [if_neg (by omega)]), Keep.refl _ _⟩⟩
 case round =>
  obtain ⟨k, hk, rfl, rfl, hK⟩ := hrel; have HK := H_ hK.out; clear hK; have d1 : wr.cell? ⟨bb, 8, none⟩ = _ := (HK.out.kp.cell (p := ⟨bb, 8, none⟩) H.out.2.2.1 (fun ⟨j, hj, he⟩ => H.out.2.2.2.1 j hj he)).trans c1
  by_cases hkn : k < n
  . obtain ⟨g, rfl, hg, c0⟩ := HK.out.x.r.rd.at k (by simpa using hkn); simp only [List.getElem_map, List.getElem_range] at c0; have hx := HK.out.x.e k hkn; have hmk := H.out.2.2.2.2 k hkn; have hgk : (X k).ownBlock ≠ some g := fun he => HK.out.x.rowNe opts_ne k hkn g rfl he; have hbk := H.out.2.2.2.1 k hkn; have hgb : g ≠ bb := fun he => hv (by rw [he]; rfl); have HX := H_ hx; obtain ⟨sx, cx, ex, hcx, hcm⟩ := hx.form; clear hx; have HEX := H_ ex; rw [ex] at c0; generalize hmkk : m k = mk at *; have HMK := H_ hmkk; clear hmkk ex
    go_wp2_with (
     go_at_call 207; refine (markO_any k 0 mk (by omega) (by omega) (by omega) _).mono ?_; rintro e w2 ⟨v2, rfl, h2⟩; obtain ⟨s2, k2, rfl, hc2, hm2⟩ := h2.r.form; have H2 := H_ h2
     clear h2)
    have HXR := H_ (A_ d1 (A_ c0 (A_ (Nat.lt_of_lt_of_le H.out.2.2.1 HK.out.kp.size) hg))); have hgl : g < w2.heap.size := Nat.lt_of_lt_of_le hg H2.out.b.size; have hbl : bb < w2.heap.size := Nat.lt_of_lt_of_le HXR.out.2.2.1 H2.out.b.size; clear d1 c0
    go_loopg [4] mk (fun x jj wi => ∃ j : Nat, j <= mk /\ x = mk - j /\ jj = .int .i64 j /\ Hid (PutJ 91 2 mkO w2 wi (X k) mk (cs k) k j))
    case atStart => exact ⟨0, by omega, by omega, rfl, ⟨by
     have h := HX.out.below H2.out.b; unfold mixC at h; rw [if_neg (Nat.lt_irrefl k)] at h
     exact h, Keep.refl _ _⟩⟩
    case round =>
     obtain ⟨j, hj, rfl, rfl, hJ⟩ := hrel; have HJ := H_ hJ.out; clear hJ
     by_cases hjm : j < mk
     . have hrow := HJ.out.row; have hd1 : wr.cell? ⟨bb, 8, none⟩ = _ := (HJ.out.kp.cell (p := ⟨bb, 8, none⟩) hbl hbk).trans ((H2.out.b.cell (p := ⟨bb, 8, none⟩) HXR.out.2.2.1).trans HXR.out.1); have hd2 : wr.cell? ⟨g, k, none⟩ = _ := (HJ.out.kp.cell (p := ⟨g, k, none⟩) hgl hgk).trans ((H2.out.b.cell (p := ⟨g, k, none⟩) HXR.out.2.2.2).trans HXR.out.2.1); have hcl : (cs k).length = mk * 2 := by have := HX.out.len; unfold mixC at this; rw [if_neg (Nat.lt_irrefl k)] at this; omega
       have hmr := H2.out.r.rd.keep HJ.out.kp (fun q hq he => by have := H2.out.f q hq; have := HX.out.lt q he; omega)
       have hmu : (marksC mkO k 0 mk)[j * 2]? = some (.int .i64 (-1 - (k : Int))) := by
        have := marksC_get mkO mkO_len k 0 mk j 0 hjm (by decide); rw [Nat.add_zero, Nat.zero_add] at this; exact this
       have hmu2 : (marksC mkO k 0 mk)[j * 2 + 1]? = some (.string (nameS k j)) := by
        have := marksC_get mkO mkO_len k 0 mk j 1 hjm (by decide); rw [Nat.zero_add] at this; exact this
       obtain ⟨g2, rfl, hg2, hd3⟩ := hmr.get hmu; obtain ⟨g2', e2', hg2', hd3'⟩ := hmr.get hmu2; cases e2'
       rw [HEX.out] at hrow; obtain ⟨gx, rfl, hgx, hd4⟩ := hrow.rd.at (j * 2) (by rw [List.length_append, marksC_len mkO mkO_len, List.length_drop]; omega); obtain ⟨gx', ex', hgx', hd4'⟩ := hrow.rd.at (j * 2 + 1) (by rw [List.length_append, marksC_len mkO mkO_len, List.length_drop]; omega); cases ex'
       have hfz := hrow.fz (j * 2); have hfz' := hrow.fz (j * 2 + 1); have HROW := H_ (A_ hrow (A_ HJ.out.kp hcl)); have HKX := H_ (show (X k).ownBlock = some gx by rw [HEX.out]; rfl); obtain ⟨old, hd5⟩ : ∃ old, wr.cell? ⟨gx, j * 2, none⟩ = some old := ⟨_, hd4⟩; obtain ⟨old', hd5'⟩ : ∃ old, wr.cell? ⟨gx, j * 2 + 1, none⟩ = some old := ⟨_, hd4'⟩; have HSv : (fun Y : World => Y.cell? ⟨bb, 8, none⟩ = some (.slice (some ⟨g, 0, none⟩) n k1) /\ Y.cell? ⟨g, k, none⟩ = some (.slice (some ⟨gx, 0, none⟩) mk cx) /\ Y.cell? ⟨g2, j * 2, none⟩ = some (.int .i64 (-1 - (k : Int))) /\ Y.cell? ⟨g2, j * 2 + 1, none⟩ = some (.string (nameS k j))) wr.drew := ⟨hd1, hd2, hd3, hd3'⟩; clear hrow hmr hmu hmu2 hd4 hd4' hcl; go_wp2_with fail; refine wp_region_H (rgH 0 13) (fun Y : World => Y.cell? ⟨bb, 8, none⟩ = some (.slice (some ⟨g, 0, none⟩) n k1) /\ Y.cell? ⟨g, k, none⟩ = some (.slice (some ⟨gx, 0, none⟩) mk cx) /\ Y.cell? ⟨g2, j * 2, none⟩ = some (.int .i64 (-1 - (k : Int))) /\ Y.cell? ⟨g2, j * 2 + 1, none⟩ = some (.string (nameS k j))) (by kernel_rfl) ?_; refine hatH 0 rfl (by rintro W ⟨h0, h1, h2, h3⟩; go_simp; try rfl) HSv ?_; simp only [aZ, aC, aD]; refine hatH 1 rfl (by rintro W ⟨h0, h1, h2, h3⟩; go_simp; try rfl) HSv ?_; simp only [aZ, aC, aD]; refine hatH 2 rfl (by rintro W ⟨h0, h1, h2, h3⟩; go_simp; try rfl) HSv ?_; simp only [aZ, aC, aD]; refine hatH 3 rfl (by rintro W ⟨h0, h1, h2, h3⟩; go_simp; try rfl) HSv ?_; simp only [aZ, aC, aD]; refine hatH 4 rfl (by rintro W ⟨h0, h1, h2, h3⟩; go_simp; try rfl) HSv ?_; simp only [aZ, aC, aD]; refine hatH 5 rfl (by rintro W ⟨h0, h1, h2, h3⟩; go_simp; try rfl) HSv ?_; simp only [aZ, aC, aD]; refine hatH 6 rfl (by rintro W ⟨h0, h1, h2, h3⟩; go_simp; try rfl) HSv ?_; simp only [aZ, aC, aD]; refine hatH 7 rfl (by rintro W ⟨h0, h1, h2, h3⟩; go_simp; try rfl) HSv ?_; simp only [aZ, aC, aD]; refine hatH 8 rfl (by rintro W ⟨h0, h1, h2, h3⟩; go_simp; try rfl) HSv ?_; simp only [aZ, aC, aD]; refine hatH 9 rfl (by rintro W ⟨h0, h1, h2, h3⟩; go_simp; try rfl) HSv ?_; simp only [aZ, aC, aD]; refine hatH 10 rfl (by rintro W ⟨h0, h1, h2, h3⟩; go_simp; try rfl) HSv ?_; simp only [aZ, aC, aD]; refine hatH 11 rfl (by rintro W ⟨h0, h1, h2, h3⟩; go_simp; try rfl) HSv ?_; simp only [aZ, aC, aD]; refine hatH 12 rfl (by rintro W ⟨h0, h1, h2, h3⟩; go_simp; try rfl) HSv ?_; simp only [aZ, aC, aD]; refine hend 13 ?_; simp only [aF, aG]; go_wp2_with fail
       go_roundg (mk - (j + 1))
       case measure => omega
       case rel =>
        refine ⟨j + 1, by omega, rfl, by go_num, ?_, ?_⟩
        . have hcl := HROW.out.2.2; have hb := ((HROW.out.1.keep (Keep.refl (fun _ => False) wr).drew (fun _ _ h => h)).set (j * 2) (.int .i64 (-1 - (k : Int))) (by rw [List.length_append, marksC_len mkO mkO_len, List.length_drop]; omega)).set (j * 2 + 1) (.string (nameS k j)) (by rw [List.length_set, List.length_append, marksC_len mkO mkO_len, List.length_drop]; omega); rw [set_mark (by rw [marksC_len mkO mkO_len]) (by omega), set_mark (by rw [List.length_append, marksC_len mkO mkO_len]; rfl) (by omega)] at hb; rw [marksC_snoc, HEX.out, Nat.add_mul]; simp only [mkO, Nat.zero_add]; rw [List.append_assoc (marksC mkO k 0 j)] at hb; exact hb
        . exact ((HROW.out.2.1.drew).setCell ⟨gx, j * 2, none⟩ (Or.inr HKX.out) _).setCell ⟨gx, j * 2 + 1, none⟩ (Or.inr HKX.out) _
     . obtain rfl : mk = j := by omega
       go_wp2_with fail
       go_roundg (n - (k + 1))
       case measure => omega
       case rel =>
        refine ⟨k + 1, by omega, rfl, by go_num, ?_, ?_⟩
        . have hx := HK.out.x.below H2.out.b; have hj := HJ.out.row; rw [List.drop_of_length_le (by have := HX.out.len; unfold mixC at this; rw [if_neg (Nat.lt_irrefl k)] at this; omega), List.append_nil, <- HMK.out] at hj; exact (hx.turn opts_ne hkn hj HJ.out.kp).cong (fun i _ => mixC_step mkO m cs k i)
        . exact (HK.out.kp.trans (Keep.of_below _ H2.out.b)).transM HJ.out.kp (fun _ _ h => h) (fun i _ he => ⟨k, hkn, he⟩)
  . go_wp2_with fail
    go_end0
    obtain rfl : n = k := by omega
    exact ⟨⟨_, rfl⟩, HK.out⟩
set_option maxRecDepth 100000 in
theorem growO_any (v : Value) (n : Nat) (X : Nat -> Value) (m : Nat -> Nat) (bb : Nat) (w : World) (h : XV 91 62 2 w v n X m (fun i => marksC mkO i 0 (m i))) (c1 : w.cell? ⟨bb, 8, none⟩ = some v) (hbb : bb < w.heap.size) (hne : ∀ i, i < n -> (X i).ownBlock ≠ some bb)
 (hn : n <= 250) (hm : ∀ i, i < n -> m i <= 100000) :
 Calls Tryz.prog 108 #[.pointer (some ⟨bb, 0, none⟩)] w fun e w' => ∃ out G, e = .returned out /\ GrowI 91 62 2 mkO w w' out n X m G n := by
 obtain ⟨s1, k1, e1, hc1, hm1⟩ := h.r.form; subst e1; have H := H_ (A_ h (A_ c1 (A_ hbb (A_ hne hm)))); clear h hbb hne hm; go_enter Tryz.func108, Tryz.ntmps108; go_wp2_with fail
 go_loopg [3, 4] n (fun x out i wr => ∃ (k : Nat) (G : Nat -> Value), k <= n /\ x = n - k /\ i = .int .i64 k /\ Hid (GrowI 91 62 2 mkO w wr out n X m G k))
 case atStart => exact ⟨0, fun _ => nilS, by omega, by omega, rfl, GrowI.start H.out.1⟩
 case round =>
  obtain ⟨k, G, hk, rfl, rfl, hK⟩ := hrel; have HK := H_ hK.out; clear hK; have d1 : wr.cell? ⟨bb, 8, none⟩ = _ := (HK.out.kp.cell (p := ⟨bb, 8, none⟩) H.out.2.2.1 (fun ⟨j, hj, he⟩ => H.out.2.2.2.1 j hj he)).trans c1; obtain ⟨so, co, eo, -, -⟩ := HK.out.o.form; subst eo
  by_cases hkn : k < n
  . have hxl : ∀ g, (X k).ownBlock = some g -> g < w.heap.size := fun g hg => ((H.out.1.e k hkn).blk hg).1; obtain ⟨g, rfl, hg, c0⟩ := H.out.1.r.rd.at k (by simpa using hkn); simp only [List.getElem_map, List.getElem_range] at c0; have d0 : wr.cell? ⟨g, k, none⟩ = _ := (HK.out.kp.cell (p := ⟨g, k, none⟩) hg (fun ⟨j, hj, he⟩ => H.out.1.rowNe opts_ne j hj g rfl he)).trans c0; have hmk := H.out.2.2.2.2 k hkn; have hy := HK.out.y k (Nat.le_refl _) hkn; have HST := H_ (GrowJ.start hy); have HXL := H_ (fun g hg => Nat.lt_of_lt_of_le (hxl g hg) HK.out.kp.size); have HO := H_ (fun (w6 w7 : World) (k6 : Keep (fun g => (X k).ownBlock = some g) wr w6) (b7 : Below w6.heap.size w6 w7) => (HK.out.o.keep k6 (fun q hq he => by have := HK.out.ob q hq; have := hxl q he; omega)).below b7); obtain ⟨sx, cx, ex, hcx, hcm⟩ := hy.form; have HEX := H_ ex; rw [ex] at d0; generalize hmkk : m k = mk at *; have HMK := H_ hmkk; clear hmkk ex hy c0 hxl; go_wp2_with fail
    go_loopg [5, 6] (12 : Nat) (fun x l nn wi => ∃ c : Nat, c <= 12 /\ x = 12 - c /\ nn = .int .i64 c /\ Hid (GrowJ 91 2 mkO wr wi (X k) l mk k c))
    case atStart => exact ⟨0, by omega, by omega, rfl, by rw [HEX.out] at HST; rw [HEX.out]; exact HST.out⟩
    case round =>
     obtain ⟨c, hc, rfl, rfl, hJ⟩ := hrel; have HJ := H_ hJ.out; clear hJ; obtain ⟨sl, cl, el, hcl, hclm⟩ := HJ.out.lr.form; subst el
     by_cases hc12 : c < 12
     . go_wp2_with (first
        | (
         go_at_call 207; refine (markO_any k (mk + c) 1 (by omega) (by omega) (by omega) _).mono ?_; rintro e w2 ⟨v2, rfl, h2⟩; have H2 := H_ h2
         clear h2)
        | (
         at_builtin; refine wpl_append_row opt_row rfl _ _ rfl _ (mk + c) _ rfl (HJ.out.lr.below H2.out.b) _ 1 _ rfl H2.out.r.rd H2.out.r.hnil (marksC_len mkO mkO_len _ _ _) (marksC_one mkO mkO_one _ _ _) (by omega) ?_
         intro v6 w6 h6 o6 k6 p6; have H6 := H_ (HJ.out.step H2.out.b HXL.out h6 o6 k6 p6)
         clear h6 o6 k6 p6))
       go_roundg (12 - (c + 1))
       case measure => omega
       case rel => exact ⟨c + 1, by omega, rfl, by go_num, H6.out⟩
     . obtain rfl : c = 12 := by omega
       go_wp2_with (first
        | (
         go_at_call 207; refine (markO_any k (mk + 12) 60 (by omega) (by omega) (by omega) _).mono ?_; rintro e w2 ⟨v2, rfl, h2⟩; have H2 := H_ h2
         clear h2)
        | (
         at_builtin; refine wpl_append_row opt_row rfl _ _ rfl _ (mk + 12) _ rfl (HJ.out.lr.below H2.out.b) _ 60 _ rfl H2.out.r.rd H2.out.r.hnil (marksC_len mkO mkO_len _ _ _) (marksC_one mkO mkO_one _ _ _) (by omega) ?_
         intro v6 w6 h6 o6 k6 p6; obtain ⟨s6, q6, rfl, -, -⟩ := h6.form; have H6 := H_ (HJ.out.step H2.out.b HXL.out h6 o6 k6 p6)
         clear h6 o6 k6 p6)
        | (
         at_builtin; refine wpl_append_rec opts_row rfl _ _ rfl _ k _ rfl (HO.out _ _ H6.out.kp (b1 _ _)) _ _ [.slice s6 (mk + 12 + 60) q6] rfl (cell_of_at _ _ _ rfl) rfl (fun u hu => by rw [List.mem_singleton.1 hu]; rfl) (by omega) ?_
         intro g8 c8 w8 h8 k8 o8; have H8 := H_ (A_ h8 (A_ k8 o8))
         clear h8 k8 o8))
       go_roundg (n - (k + 1))
       case measure => omega
       case rel =>
        refine ⟨k + 1, upN G k (.slice s6 (mk + 12 + 60) q6), by omega, rfl, by go_num, ?_⟩; have e := HMK.out; subst e; exact GrowI.step H.out.1 opts_ne HK.out hkn H6.out (b1 _ _) H8.out.1 H8.out.2.1 (H8.out.2.2.imp (fun h => h.symm) (fun h => by rw [h]; rfl))
  . go_wp2_with fail; go_ret; obtain rfl : n = k := by omega
    exact ⟨_, G, rfl, HK.out⟩
set_option maxRecDepth 100000 in
theorem addO_any (D : KD) (x : Value) (mx : Nat) (cx : List Value) (bb : Nat) (bcs : Array Value) (BT : TypeId) (w : World) (h : ShelfV 91 62 2 w D) (hx : BRow 91 2 w x mx cx) (hone : ∀ u ∈ cx, u.oneCell' = true) (hmx : mx <= 100000)
 (hxs : ∀ g, x.ownBlock = some g -> ¬ D.Has g) (hbk : w.heap[bb]? = some (.cells bcs BT (0, 0))) (hc1 : bcs[8]? = some D.v1) (hc2 : bcs[9]? = some D.v2) (hbn : ¬ D.Has bb) (hbx : x.ownBlock ≠ some bb) (hroom : D.n < 250) :
 Calls Tryz.prog 35 #[.pointer (some ⟨bb, 0, none⟩), x] w fun e w' => (∃ r, e = .returned r) /\ ∃ v1 v2 y, AddI 91 62 2 bb 8 9 bcs BT w w' D ⟨v1, v2, D.n + 1, upN D.X D.n x, upN D.Y D.n y, upN D.m D.n mx, upN D.cs D.n cx, upN D.ds D.n cx⟩ x := by
 obtain ⟨v1, v2, n, X, Y, m, cs, ds⟩ := D; simp only at hc1 hc2 hroom ⊢
 have hbb : bb < w.heap.size := (Array.getElem?_eq_some_iff.1 hbk).1; obtain ⟨s1, k1, e1, hcc1, hm1⟩ := h.x.r.form; obtain ⟨s2, k2, e2, hcc2, hm2⟩ := h.y.r.form; obtain ⟨sx, kx, e3, hcc3, hm3⟩ := hx.form; simp only at e1 e2 hcc1 hcc2
 subst e1 e2 e3; have c1 := cell_block hbk hc1; have hv1 : ∀ g, (Value.slice s1 n k1).ownBlock = some g -> g ≠ bb := fun g hg he => hbn (.inl (.inl (by rw [<- he]; exact hg))); have hv2 : ∀ g, (Value.slice s2 n k2).ownBlock = some g -> g ≠ bb := fun g hg he => hbn (.inr (.inl (by rw [<- he]; exact hg))); have H := H_ (A_ h (A_ hx (A_ hxs (A_ hbb (A_ hbn (A_ hone (A_ hbk (A_ hc1 (A_ hc2 hbx))))))))); have HV := H_ (A_ hv1 hv2); clear h hx hxs hbb hbn hone hbk hc1 hc2 hbx hv1 hv2; go_enter Tryz.func35, Tryz.ntmps35
 go_wp2_with (
  at_builtin; refine wpl_append_rec opts_row rfl _ _ rfl _ n _ rfl (H.out.1.x.r.below (b1 _ _)) _ _ [.slice sx mx kx] rfl (cell_of_at _ _ _ rfl) rfl (fun u hu => by rw [List.mem_singleton.1 hu]; rfl) (by omega) ?_
  intro g3 c3 w3 h3 k3 o3; have hbb3 : bb < (w.alloc (.cells #[.slice sx mx kx] 62 (0, 0))).heap.size := Nat.lt_of_lt_of_le H.out.2.2.2.1 (b1 _ _).size; have hk3 : w3.heap[bb]? = some (.cells bcs BT (0, 0)) := (k3.block bb hbb3 (fun he => HV.out.1 bb he rfl)).trans (((b1 w _).block bb H.out.2.2.2.1).trans H.out.2.2.2.2.2.2.1); have d2 := cell_block hk3 H.out.2.2.2.2.2.2.2.1; have f3 := fz_block hk3 8; have H3 := H_ (A_ h3 (A_ k3 (A_ o3 hk3)))
  clear h3 k3 o3 hk3)
 have hs3 := H3.out.2.1.size; have hb0 := (b1 w (.cells #[.slice sx mx kx] 62 (0, 0)))
 have hA : Add1 91 62 2 ⟨.slice s1 n k1, .slice s2 n k2, n, X, Y, m, cs, ds⟩ w3 (.slice (some ⟨g3, 0, none⟩) (n + 1) c3) (.slice sx mx kx) mx cx :=
  add1 (H.out.1.below hb0) opts_ne (H.out.2.1.below hb0) H.out.2.2.1 H3.out.1 H3.out.2.1 (H3.out.2.2.1.imp (fun h => h.symm) (fun h => by rw [h]; rfl)) hmx hroom
 have hg3 : g3 ≠ bb := fun he => by
  rcases H3.out.2.2.1 with h | h
  . exact HV.out.1 _ h he
  . have := H.out.2.2.2.1; have := hb0.size; omega
 have hnb : ∀ g, XHas (.slice (some ⟨g3, 0, none⟩) (n + 1) c3) (n + 1) (upN X n (.slice sx mx kx)) g \/ XHas (.slice s2 n k2) n Y g -> ¬ g = bb := by
  intro g hg he; subst he
  rcases hg with hg | hg
  . rcases hg.up with h | h | h
    . cases h; exact hg3 rfl
    . exact H.out.2.2.2.2.2.2.2.2.2 h
    . exact H.out.2.2.2.2.1 (.inl (.inr h))
  . exact H.out.2.2.2.2.1 (.inr hg)
 have hk4 := (Keep.refl (fun g => g = bb) w3).setCell ⟨bb, 8, none⟩ (Or.inr rfl) (.slice (some ⟨g3, 0, none⟩) (n + 1) c3); have hA4 := hA.keep hk4 hnb; have hbk4 := cell_set H3.out.2.2.2 8 (.slice (some ⟨g3, 0, none⟩) (n + 1) c3); have hcc4 : (bcs.setIfInBounds 8 (.slice (some ⟨g3, 0, none⟩) (n + 1) c3))[9]? = some (.slice s2 n k2) := get_set H.out.2.2.2.2.2.2.2.2.1 (by decide); have d3 := cell_block hbk4 hcc4
 have hkk : Keep (fun g => g = bb \/ (Value.slice s1 n k1).ownBlock = some g \/ (Value.slice s2 n k2).ownBlock = some g) w (w3.setCell ⟨bb, 8, none⟩ (.slice (some ⟨g3, 0, none⟩) (n + 1) c3)) :=
  ((Keep.of_below _ hb0).transM H3.out.2.1 (fun _ _ h => h) (fun g _ h => .inr (.inl h))).transM hk4 (fun _ _ h => h) (fun g _ h => .inl h)
 have hsz4 : w.heap.size < (w3.setCell ⟨bb, 8, none⟩ (.slice (some ⟨g3, 0, none⟩) (n + 1) c3)).heap.size := Nat.lt_of_lt_of_le (by rw [balloc1]; omega) (Nat.le_trans hs3 hk4.size); have HA := H_ (A_ hA4 (A_ hbk4 (A_ hcc4 (A_ hkk (A_ hnb hsz4))))); clear hA hA4 hnb hk4 hb0 d2 f3 hbk4 hcc4 hkk hsz4 hs3; generalize w3.setCell ⟨bb, 8, none⟩ (.slice (some ⟨g3, 0, none⟩) (n + 1) c3) = w4 at *
 have HS : Hid (∀ W, Keep (fun g => (Value.slice s2 n k2).ownBlock = some g) w4 W -> W.heap[bb]? = some (.cells (bcs.setIfInBounds 8 (.slice (some ⟨g3, 0, none⟩) (n + 1) c3)) BT (0, 0))) := H_ fun W hW =>
  (hW.block bb (Array.getElem?_eq_some_iff.1 HA.out.2.1).1 (fun he => HV.out.2 bb he rfl)).trans HA.out.2.1
 have HSv : (fun Y : World => Y.cell? ⟨bb, 9, none⟩ = some (.slice s2 n k2)) w4.drew := d3; refine wp_region_H (rgH 0 9) (fun Y : World => Y.cell? ⟨bb, 9, none⟩ = some (.slice s2 n k2)) (by kernel_rfl) ?_; refine hatH 0 rfl (by rintro W h0; go_simp; try rfl) HSv ?_; simp only [aZ, aC, aD]; refine hatH 1 rfl (by rintro W h0; go_simp; try rfl) HSv ?_; simp only [aZ, aC, aD]; refine hatH 2 rfl (by rintro W h0; go_simp; try rfl) HSv ?_; simp only [aZ, aC, aD]; refine hatH 3 rfl (by rintro W h0; go_simp; try rfl) HSv ?_; simp only [aZ, aC, aD]; refine hatH 4 rfl (by rintro W h0; go_simp; try rfl) HSv ?_; simp only [aZ, aC, aD]; refine hatH 5 rfl (by rintro W h0; go_simp; try rfl) HSv ?_; simp only [aZ, aC, aD]; refine hone 6 rfl fun K hK => ?_
 try go_simp
 go_at_call 155; refine (copyO_any (.slice sx mx kx) mx cx w4.drew (HA.out.1.xr.rd.below (Below.refl _ _).drew) HA.out.1.xr.hnil HA.out.1.xr.len H.out.2.2.2.2.2.1 (by omega)).mono ?_; rintro e w5 ⟨y, rfl, h5⟩; have hb5 : Below w4.heap.size w4 w5 := Below.trans (Below.refl _ _).drew h5.b; have HSv : w5.cell? ⟨bb, 9, none⟩ = some (.slice s2 n k2) := cell_block (HS.out w5 (Keep.of_below _ hb5)) HA.out.2.2.1; obtain ⟨sy, ky, rfl, -, -⟩ := h5.r.form; have H5 := H_ (A_ h5.r (A_ hb5 h5.f)); clear hb5 h5; refine hK _ _ (fun _ => HSv) ?_
 try simp only [aZ, aA, aE, aB, aC, aD]
 refine hone 7 rfl fun K hK => ?_
 try go_simp
 have hb6 := b1 w5 (.cells #[.slice sy mx ky] 62 (0, 0)); have HSv : (w5.alloc (.cells #[.slice sy mx ky] 62 (0, 0))).cell? ⟨bb, 9, none⟩ = some (.slice s2 n k2) := cell_block (HS.out _ ((Keep.of_below _ H5.out.2.1).trans (Keep.of_below _ hb6))) HA.out.2.2.1; refine hK _ _ (fun _ => HSv) ?_
 try simp only [aZ, aA, aE, aB, aC, aD]
 refine wpAnyH_1 8 rfl (by kernel_rfl) ?_; intro K hK; refine step_append_rec opts_row rfl _ _ rfl _ n _ rfl (HA.out.1.yv.r.below (Below.trans H5.out.2.1 (hb6.mono H5.out.2.1.size))) _ _ [.slice sy mx ky] rfl (cell_of_at _ _ _ rfl) rfl (fun u hu => by rw [List.mem_singleton.1 hu]; rfl) (by omega) ?_; intro g7 c7 w7 h7 k7 o7; have hbk7 := HS.out w7 (((Keep.of_below _ H5.out.2.1).trans (Keep.of_below _ hb6)).trans k7); have HSv : w7.cell? ⟨bb, 9, none⟩ = some (.slice s2 n k2) := cell_block hbk7 HA.out.2.2.1; have f7 := fz_block hbk7 9
 have hS7 : ShelfV 91 62 2 w7 ⟨(.slice (some ⟨g3, 0, none⟩) (n + 1) c3), (.slice (some ⟨g7, 0, none⟩) (n + 1) c7), n + 1, upN X n (.slice sx mx kx), upN Y n (.slice sy mx ky), upN m n mx, upN cs n cx, upN ds n cx⟩ :=
  HA.out.1.add2 opts_ne H5.out.1 H5.out.2.1 H5.out.2.2 hb6 h7 k7 (o7.imp (fun h => h.symm) (fun h => by rw [h]; rfl))
 have hsz7 : (w5.alloc (.cells #[.slice sy mx ky] 62 (0, 0))).heap.size <= w7.heap.size := k7.size; have H7 := H_ (A_ hS7 (A_ hbk7 (A_ o7 (A_ hsz7 (HA.out.2.2.2.1.trans (((Keep.of_below _ H5.out.2.1).trans (Keep.of_below _ hb6)).transM k7 (fun _ _ h => h) (fun g _ h => .inr (.inr h)))))))); clear h7 k7 o7 hbk7 hS7 hb6 hsz7; refine hK _ _ (fun _ => HSv) ?_
 try simp only [aZ, aA, aE, aB, aC, aD]
 refine hend 9 ?_; simp only [aF, aG]; go_wp2_with fail
 go_end0
 refine ⟨⟨_, rfl⟩, (.slice (some ⟨g3, 0, none⟩) (n + 1) c3), (.slice (some ⟨g7, 0, none⟩) (n + 1) c7), (.slice sy mx ky), ?_⟩; have hs5 := H5.out.2.1.size; have hs6 := balloc1 w5 (.cells #[.slice sy mx ky] 62 (0, 0)); have hs7 := H7.out.2.2.2.1; have hk8 := (Keep.refl (fun g => g = bb) w7).setCell ⟨bb, 9, none⟩ (Or.inr rfl) (.slice (some ⟨g7, 0, none⟩) (n + 1) c7)
 have hg7 : g7 ≠ bb := fun he => by
  rcases H7.out.2.2.1 with h | h
  . exact HV.out.2 _ h he
  . have := H.out.2.2.2.1; have := HA.out.2.2.2.2.2; omega
 have hhas : ∀ g, (⟨(.slice (some ⟨g3, 0, none⟩) (n + 1) c3), (.slice (some ⟨g7, 0, none⟩) (n + 1) c7), n + 1, upN X n (.slice sx mx kx), upN Y n (.slice sy mx ky), upN m n mx, upN cs n cx, upN ds n cx⟩ : KD).Has g ->
  (⟨.slice s1 n k1, .slice s2 n k2, n, X, Y, m, cs, ds⟩ : KD).Has g \/ (Value.slice sx mx kx).ownBlock = some g \/ w.heap.size <= g := by
  rintro g (hg | hg)
  . rcases hg.up with h | h | h
    . cases h
      rcases H3.out.2.2.1 with h | h
      . exact .inl (.inl (.inl h))
      . exact .inr (.inr (by show w.heap.size <= g3; rw [balloc1] at h; omega))
    . exact .inr (.inl h)
    . exact .inl (.inl (.inr h))
  . rcases hg.up with h | h | h
    . cases h
      rcases H7.out.2.2.1 with h | h
      . exact .inl (.inr (.inl h))
      . exact .inr (.inr (by show w.heap.size <= g7; have := HA.out.2.2.2.2.2; omega))
    . exact .inr (.inr (by have h9 : w4.heap.size <= g := H5.out.2.2 g h; have := HA.out.2.2.2.2.2; omega))
    . exact .inl (.inr (.inr h))
 have hsf := H7.out.1.keep hk8 (fun g hg he => by
  subst he
  rcases hhas g hg with h | h | h
  . exact H.out.2.2.2.2.1 h
  . exact H.out.2.2.2.2.2.2.2.2.2 h
  . have := H.out.2.2.2.1; omega)
 exact ⟨hsf, cell_set H7.out.2.1 9 _, H7.out.2.2.2.2.transM hk8 (fun _ _ h => h) (fun g _ h => .inl h), fun g hg => (hhas g hg).imp id (fun h => h.imp id (fun h => ⟨h, hsf.lt hg⟩))⟩
structure BookO (w : World) (bb : Nat) (D : KD) : Prop where
 blk : w.heap[bb]? = some (.cells (bookC nilS nilS D.v1 D.v2 nilS nilS) 42 (0, 0))
 i : ShelfV 91 62 2 w D
 eqs : ∀ i, i < D.n -> ∃ xs : List Opt, xs.length = D.m i /\ D.cs i = oV xs /\ D.ds i = oV xs
section
variable {w w' : World} {bb : Nat} {D : KD}
structure MarkO (w : World) (bb : Nat) (D : KD) : Prop where
 blk : w.heap[bb]? = some (.cells (bookC nilS nilS D.v1 D.v2 nilS nilS) 42 (0, 0))
 x : XV 91 62 2 w D.v1 D.n D.X D.m (fun i => marksC mkO i 0 (D.m i))
structure GrownO (w : World) (bb : Nat) (D : KD) (g : Value) : Prop where
 blk : w.heap[bb]? = some (.cells (bookC nilS nilS D.v1 D.v2 nilS nilS) 42 (0, 0))
 g : ∃ G, RowR w g D.n ((List.range D.n).map G) /\ ∀ i, i < D.n -> RowR w (G i) (D.m i + 72) (marksC mkO i 0 (D.m i + 72))
 x : RowR w D.v1 D.n ((List.range D.n).map D.X) /\ ∀ i, i < D.n -> RowR w (D.X i) (D.m i) (marksC mkO i 0 (D.m i))
end
set_option maxRecDepth 100000 in
theorem addO_full (bb : Nat) (x : Value) (sa : Option Addr) (n c : Nat) (w : World) (c1 : w.cell? ⟨bb, 8, none⟩ = some (.slice sa n c)) (hn : 250 <= n) :
 Calls Tryz.prog 35 #[.pointer (some ⟨bb, 0, none⟩), x] w fun e w' => (∃ r, e = .returned r) /\ w = w' := by
 go_enter Tryz.func35, Tryz.ntmps35; go_wp2_with fail
 go_end0
 exact ⟨⟨_, rfl⟩, rfl⟩
structure BookAddO (w w' : World) (bb : Nat) (D D' : KD) (x : Value) : Prop where
 b : BookO w' bb D'
 kp : Keep (fun g => g = bb \/ D.Has g) w w'
 has : ∀ g, D'.Has g -> D.Has g \/ x.ownBlock = some g \/ (w.heap.size <= g /\ g < w'.heap.size)
set_option maxRecDepth 100000 in
theorem sameP_any (xs ys : List Opt) (a b : Value) (ok ok2 : Nat -> Prop) (w : World) (ha : Opts w ok a xs) (hb : Opts w ok2 b ys) (hl : xs.length <= 1000000) (hl' : ys.length <= 1000000) :
 Calls Tryz.prog 30 #[a, b] w fun e w' => (∃ y : Bool, e = .returned (.bool y) /\ (y = true ↔ xs = ys)) /\ Below w.heap.size w w' := by
 obtain ⟨sa, c, rfl, hc, hm⟩ := ha.form; obtain ⟨sb, d, rfl, hd, hn⟩ := hb.form
 by_cases hxy : xs.length = ys.length
 case neg =>
  have H : Hid (∀ y : Bool, y = false -> (y = true ↔ xs = ys)) := H_ (fun y h => ⟨fun h1 => absurd (h1.symm.trans h) (by decide), fun h1 => absurd (by rw [h1]) hxy⟩); clear ha hb; generalize xs.length = n1 at *; generalize ys.length = n2 at *; go_enter Tryz.func30, Tryz.ntmps30; go_wp2_with fail; go_ret; exact ⟨⟨_, rfl, H.out _ rfl⟩, Below.refl _ _⟩
 case pos =>
 have H := H_ (A_ ha hb); clear ha hb; rw [<- hxy] at hd hl' ⊢; obtain ⟨len, hln⟩ : ∃ len, len = xs.length := ⟨_, rfl⟩; have HLN := H_ (A_ hln hxy); rw [<- hln] at hc hd hl ⊢; clear hln hxy hl'; go_enter Tryz.func30, Tryz.ntmps30; go_wp2_with fail
 go_loopg [5] len (fun x i wr => ∃ k : Nat, k <= len /\ x = len - k /\ i = .int .i64 k /\ Hid (Below w.heap.size w wr /\ ∀ j (h1 : j < xs.length) (h2 : j < ys.length), j < k -> xs[j] = ys[j]))
 case atStart => exact ⟨0, by omega, by omega, rfl, Below.refl _ _, fun j _ _ h => absurd h (Nat.not_lt_zero _)⟩
 case round =>
  obtain ⟨k, hk, rfl, rfl, hK⟩ := hrel; have HK := H_ hK.out; clear hK
  by_cases hkl : k < len
  . have h1 : k < xs.length := by have := HLN.out.1; omega
    have h2 : k < ys.length := by have := HLN.out.2; omega
    obtain ⟨g, off, rfl, hg, -, -, -, -, c0, c1⟩ := H.out.1.at k h1; obtain ⟨g', off', rfl, hg', -, -, -, -, c2, c3⟩ := H.out.2.at k h2; have d0 : wr.cell? ⟨g, off + k * 2, none⟩ = _ := (HK.out.1.cell (p := ⟨g, off + k * 2, none⟩) hg).trans c0; have d1 : wr.cell? ⟨g, off + k * 2 + 1, none⟩ = _ := (HK.out.1.cell (p := ⟨g, off + k * 2 + 1, none⟩) hg).trans c1; have d2 : wr.cell? ⟨g', off' + k * 2, none⟩ = _ := (HK.out.1.cell (p := ⟨g', off' + k * 2, none⟩) hg').trans c2; have d3 : wr.cell? ⟨g', off' + k * 2 + 1, none⟩ = _ := (HK.out.1.cell (p := ⟨g', off' + k * 2 + 1, none⟩) hg').trans c3
    have HEQ : Hid (∀ y : Bool, (y = true ↔ (xs[k].t = ys[k].t /\ xs[k].v = ys[k].v)) -> (y = true -> xs[k] = ys[k]) /\ (y = false -> ∀ y' : Bool, y' = false -> (y' = true ↔ xs = ys))) := H_ (by
     intro y hy; refine ⟨fun h => ?_, fun h y' hy' => ⟨fun h3 => absurd (h3.symm.trans hy') (by decide), fun h3 => ?_⟩⟩
     . obtain ⟨e1, e2⟩ := hy.1 h; generalize xs[k] = x at *; generalize ys[k] = z at *; obtain ⟨x1, x2⟩ := x; obtain ⟨z1, z2⟩ := z; simp only at e1 e2
       rw [e1, e2]
     . subst h3
       exact absurd ((hy.2 ⟨rfl, rfl⟩).symm.trans h) (by decide))
    clear c0 c1 c2 c3; generalize hx0 : xs[k].t = t at d0 HEQ; generalize hx1 : xs[k].v = v at d1 HEQ; generalize hx2 : ys[k].t = t' at d2 HEQ; generalize hx3 : ys[k].v = v' at d3 HEQ; obtain ⟨y, hy⟩ : ∃ y : Bool, y = (decide (t = t') && decide (v = v')) := ⟨_, rfl⟩; have HE := H_ (HEQ.out y (by rw [hy]; simp)); have hn : ∀ w, (binOp .eql 91 (.agg #[.int .i64 t, .string v]) (.agg #[.int .i64 t', .string v'])).run Tryz.prog w = .ok (.bool y) w := fun w => by rw [eqOb, hy]
    clear hy hx0 hx1 hx2 hx3 HEQ
    cases y with
    | true =>
     go_wp2_with fail
     go_quiet (fail)
     go_wp2_with fail
     go_roundg (len - (k + 1))
     case measure => omega
     case rel =>
      refine ⟨k + 1, by omega, rfl, by go_num, ⟨HK.out.1.os, HK.out.1.tape, HK.out.1.output, HK.out.1.size, HK.out.1.block⟩, fun j h3 h4 h5 => ?_⟩
      rcases Nat.lt_or_ge j k with h | h
      . exact HK.out.2 j h3 h4 h
      . obtain rfl : j = k := by omega
        exact HE.out.1 (by first | exact trivial | rfl)
    | false =>
     go_wp2_with fail
     go_quiet (fail)
     go_wp2_with fail; go_ret; exact ⟨⟨_, rfl, HE.out.2 (by first | exact trivial | rfl) _ rfl⟩, ⟨HK.out.1.os, HK.out.1.tape, HK.out.1.output, HK.out.1.size, HK.out.1.block⟩⟩
  . go_wp2_with fail; go_ret; refine ⟨⟨_, rfl, fun _ => ?_, fun _ => rfl⟩, HK.out.1⟩; have e1 := HLN.out.1; have e2 := HLN.out.2; exact List.ext_getElem e2 fun j h3 h4 => HK.out.2 j h3 h4 (by omega)
theorem wpl_append_fl {P : Program} {TS T : TypeId} {k by' : Nat} (R : RowT P TS T k by') {w : World} {ops : Array Oper} {rest : List Oper} {o : Oper} {a : Act} {Q : Exit -> Act -> World -> Prop} (hgd : o.guard = none) (s x : Operand)
 (ho : o.op = .call { callee := .builtin .append, args := #[s, x], argTypes := #[TS, TS] }) (v : Value) (n : Nat) (us : List Value) (hs : a.eval s = v) (hown : BRow T k w v n us)
 (sa : Option Addr) (n' c : Nat) (us' : List Value) (hx : a.eval x = .slice sa n' c) (hnil : sa = none -> n' = 0 /\ c = 0) (hfl : ∀ ad, sa = some ad -> ∀ j u, us'[j]? = some u -> w.cell? (ad.add j) = some u) (hul : us'.length = n' * k) (h1 : ∀ u ∈ us', u.oneCell' = true) (hlen : n + n' <= 1000000)
 (h : ∀ v' w', BRow T k w' v' (n + n') (us ++ us') -> Keep (fun k => v.ownBlock = some k) w w' -> (v'.ownBlock = v.ownBlock \/ v'.ownBlock = some w.heap.size) -> wpList P ops Q rest (a.put o.dst v') w') : wpList P ops Q (o :: rest) a w := by
 obtain ⟨i, z, hi, hz, hsz, hby, hzs⟩ := R.hi
 cases sa with
 | none =>
  obtain ⟨rfl, rfl⟩ := hnil rfl; have e : us' = [] := List.eq_nil_of_length_eq_zero (by rw [hul]; simp); subst e; refine wpList_append_own_none hgd s x TS ho 0 T i k R.ht hi v n us hs hown hx ?_; exact h v w (by rw [List.append_nil]; exact hown) (Keep.refl _ _) (Or.inl rfl)
 | some ad =>
  refine wpList_plain hgd fun K hK => ?_
  obtain ⟨v', w', hrun, h2, h3, h4, h5⟩ := run_append_both (P := P) w TS o.type T i z k by' R.ht hi hz hsz hby hzs R.hk v n us hown ad n' c us' hul (hfl ad rfl) h1 (by unfold maxLen; omega)
   (by
    have := R.hb; have h2 : (n + n') * by' <= (n + n') * 1000 := Nat.mul_le_mul_left _ this
    omega)
  unfold Oper.wp execOp; simp only [ho, resolve, invoke, builtin, Sem.run_bind, Sem.run_pure, Result.andThen_ok, List.map_toArray, List.map_cons, List.map_nil, hs, hx, hrun]; exact hK _ _ (h v' w' h2 (keep_of_grown h3) h4)
theorem rule_row : RowT Tryz.prog 61 64 5 48 where
 ht := Tryz.underlying61
 hi := rl_info
 hk := by decide
 hb := by decide
def o77 : Opt := ⟨-77, ⟨#[]⟩⟩
def r77 : Rl := ⟨-77, 0, 0, 0, ⟨#[]⟩⟩
structure LentO (w w' : World) (v : Value) (l : List Opt) : Prop where
 ex : ∃ g c, v = .slice (some ⟨g, 0, none⟩) l.length c /\ l.length + 1 <= c /\ c <= maxLen /\ w.heap.size <= g /\ BRow 91 2 w' (.slice (some ⟨g, 0, none⟩) (l.length + 1) c) (l.length + 1) (optL (l ++ [o77])).flatten
 b : Below w.heap.size w w'
structure LentR (w w' : World) (v : Value) (l : List Rl) : Prop where
 ex : ∃ g c, v = .slice (some ⟨g, 0, none⟩) l.length c /\ l.length + 1 <= c /\ c <= maxLen /\ w.heap.size <= g /\ BRow 64 5 w' (.slice (some ⟨g, 0, none⟩) (l.length + 1) c) (l.length + 1) (rlL (l ++ [r77])).flatten
 b : Below w.heap.size w w'
def rV (l : List Rl) : List Value := (rlL l).flatten
theorem rV_len (l : List Rl) : (rV l).length = l.length * 5 := by
 unfold rV; rw [flatten_len _ (rlL_k l), rlL_len]
theorem rV_app (a b : List Rl) : rV (a ++ b) = rV a ++ rV b := by simp [rV, rlL]
theorem rV_one (l : List Rl) : ∀ u ∈ rV l, u.oneCell' = true := rl_bytes l
set_option maxRecDepth 100000 in
theorem number9_any (s : ByteArray) (w : World) (hs : s.size <= 7) : Calls Tryz.prog 154 #[.string s] w fun e w' => e = .returned (.int .i64 (valB s.data.toList)) /\ w = w' := by
 have HL := H_ (show s.data.toList.length = s.size by rw [Array.length_toList]; rfl); go_enter Tryz.func154, Tryz.ntmps154; go_wp2_with fail
 go_loopg [3, 4] s.size (fun x v i wr => ∃ k : Nat, k <= s.size /\ x = s.size - k /\ i = .int .i64 k /\ v = .int .i64 (valB (s.data.toList.take k)) /\ w = wr)
 case atStart => exact ⟨0, by omega, by omega, rfl, rfl, rfl⟩
 case round =>
  obtain ⟨k, hk, rfl, rfl, rfl, rfl⟩ := hrel
  by_cases hlt : k < s.size
  . have HB := H_ (valB_snoc (s.data.toList.take k) s[k])
    have HT := H_ (show s.data.toList.take (k + 1) = s.data.toList.take k ++ [s[k]] by
     rw [List.take_succ_eq_append_getElem (by have := HL.out; omega)]; rfl)
    have hlt1 := valB_lt (s.data.toList.take k) (by rw [List.length_take]; omega)
    have hE : wrap64 (wrap64 (valB (s.data.toList.take k) * 256) + (s[k].toNat : Int)) = valB (s.data.toList.take (k + 1)) := by
     rw [HT.out, HB.out]; have h6 : (s.data.toList.take k).length <= 6 := by rw [List.length_take]; omega
     have hlt3 := valB_six (s.data.toList.take k) h6; have := s[k].toNat_lt; rw [show wrap64 (valB (s.data.toList.take k) * 256) = valB (s.data.toList.take k) * 256 from IntWalk.wrap64_in _ (by omega)]; exact IntWalk.wrap64_in _ (by omega)
    have HE := H_ hE; clear hE hlt1; have hbb : s[k].toNat < 256 := s[k].toNat_lt; go_wp2_with fail
    go_roundg (s.size - (k + 1))
    case measure => omega
    case rel => exact ⟨k + 1, by omega, rfl, by go_num, by rw [HE.out], rfl⟩
  . obtain rfl : s.size = k := by omega
    have HA := H_ (show s.data.toList.take s.size = s.data.toList from List.take_of_length_le (by rw [Array.length_toList]; exact Nat.le_refl _)); go_wp2_with fail; go_ret; exact ⟨by rw [HA.out]; rfl, rfl⟩
set_option maxRecDepth 100000 in
theorem fits9_any (r : Rl) (v : ByteArray) (w : World) (hv : v.size <= 100000) :
 Calls Tryz.prog 32 #[.agg #[.int .i64 r.t, .int .i64 r.len, .int .i64 r.min, .int .i64 r.max, .string r.s], .string v] w fun e w' => e = .returned (.bool (fitsR r v)) /\ Below w.heap.size w w' := by
 obtain ⟨t, len, mn, mx, sg⟩ := r; have hb0 := (Below.refl w.heap.size w).alloc (Nat.le_refl _) (.cells #[.int .i64 t, .int .i64 len, .int .i64 mn, .int .i64 mx, .string sg] 64 (0, 0))
 by_cases h1 : (v.size : Int) = len
 . have hF : fitsR ⟨t, len, mn, mx, sg⟩ v = (decide (mn <= valB (v.data.toList.take 7)) && decide (valB (v.data.toList.take 7) <= mx)) := by simp [fitsR, h1]
   have HF := H_ hF; clear hF; subst h1
   by_cases h7 : v.size <= 7
   . have hx : v.data.toList.take 7 = v.data.toList := List.take_of_length_le (by rw [str_len]; exact h7); rw [hx] at HF; have HV := H_ (fun w => number9_any v w h7); generalize valB v.data.toList = x at HF HV; clear hx; go_enter Tryz.func32, Tryz.ntmps32; go_wp2_with fail; refine (HV.out _).mono ?_; rintro e w' ⟨rfl, rfl⟩; go_wp2_with fail
     all_goals (
      go_ret; refine ⟨?_, hb0⟩; rw [HF.out]
      first | rfl | (simp; omega))
   . have hx : (v.extract 0 7).data.toList = v.data.toList.take 7 := ex_take v 7; have hs7 : (v.extract 0 7).size <= 7 := by rw [ByteArray.size_extract]; omega
     have HV := H_ (fun w => number9_any (v.extract 0 7) w hs7); rw [<- hx] at HF; generalize valB (v.extract 0 7).data.toList = x at HF HV; clear hx hs7; go_enter Tryz.func32, Tryz.ntmps32; go_wp2_with fail; refine (HV.out _).mono ?_; rintro e w' ⟨rfl, rfl⟩; go_wp2_with fail
     all_goals (
      go_ret; refine ⟨?_, hb0⟩; rw [HF.out]
      first | rfl | (simp; omega))
 . have hF : fitsR ⟨t, len, mn, mx, sg⟩ v = false := by simp [fitsR, h1]
   have HF := H_ hF; have q1 : ((v.size : Int) != len) = true := by simpa using h1
   clear hF; go_enter Tryz.func32, Tryz.ntmps32; go_wp2_with fail; go_ret; exact ⟨by rw [HF.out]; rfl, hb0⟩
theorem findR_hit {l : List Rl} {kind : Int} {k : Nat} (hk : k < l.length) (h : l[k].t = kind) (hp : ∀ j (hj : j < l.length), j < k -> l[j].t ≠ kind) : findR l kind = some l[k] := by
 unfold findR; rw [List.find?_eq_some_iff_getElem]; refine ⟨by simp [h], k, hk, rfl, fun j hj => ?_⟩; have := hp j (by omega) hj
 simpa using this
theorem findR_miss {l : List Rl} {kind : Int} (hp : ∀ j (hj : j < l.length), l[j].t ≠ kind) : findR l kind = none := by
 unfold findR; rw [List.find?_eq_none]; intro x hx; obtain ⟨j, hj, rfl⟩ := List.mem_iff_getElem.1 hx; have := hp j hj
 simpa using this
set_option maxRecDepth 100000 in
theorem find9_any (l : List Opt) (lv : Value) (ok : Nat -> Prop) (kind : Int) (w : World) (hl : Opts w ok lv l) (hmax : l.length <= 1000000) :
 Calls Tryz.prog 146 #[lv, .int .i64 kind] w fun e w' => (∃ s, e = .returned (.tuple #[.string s, .bool (l.any fun x => x.t == kind)])) /\ Below w.heap.size w w' := by
 obtain ⟨sa, c, rfl, hc, hm⟩ := hl.form; have H := H_ hl; obtain ⟨len, hln⟩ : ∃ len, len = l.length := ⟨_, rfl⟩; have HLN := H_ hln
 have HY : Hid (∀ y : Bool, (y = true ↔ ∃ k, ∃ hk : k < l.length, l[k].t = kind) -> y = l.any fun x => x.t == kind) := H_ (by
  intro y hy; rw [Bool.eq_iff_iff, hy, List.any_eq_true]
  constructor
  . rintro ⟨k, hk, h⟩; exact ⟨l[k], List.getElem_mem hk, by simpa using h⟩
  . rintro ⟨x, hx, h⟩; obtain ⟨k, hk, rfl⟩ := List.mem_iff_getElem.1 hx
    exact ⟨k, hk, by simpa using h⟩)
 rw [<- hln] at hc hmax ⊢; generalize (l.any fun x => x.t == kind) = ya at *; clear hln hl; go_enter Tryz.func146, Tryz.ntmps146; go_wp2_with fail
 go_loopg [6] len (fun x i wr => ∃ k : Nat, k <= len /\ x = len - k /\ i = .int .i64 k /\ Hid (Below w.heap.size w wr /\ ∀ j (hj : j < l.length), j < k -> l[j].t ≠ kind))
 case atStart => exact ⟨0, by omega, by omega, rfl, Below.refl _ _, fun j _ h => absurd h (Nat.not_lt_zero _)⟩
 case round =>
  obtain ⟨k, hk, rfl, rfl, hK⟩ := hrel; have HK := H_ hK.out; clear hK
  by_cases hkl : k < len
  . have h1 : k < l.length := by have := HLN.out; omega
    obtain ⟨b, off, rfl, hb, -, -, -, -, c0, c1⟩ := H.out.at k h1; have d0 : wr.cell? ⟨b, off + k * 2, none⟩ = _ := (HK.out.1.cell (p := ⟨b, off + k * 2, none⟩) hb).trans c0; have d1 : wr.cell? ⟨b, off + k * 2 + 1, none⟩ = _ := (HK.out.1.cell (p := ⟨b, off + k * 2 + 1, none⟩) hb).trans c1; have HT := H_ (show l[k].t = kind -> ya = true from fun h => (HY.out true ⟨fun _ => ⟨k, h1, h⟩, fun _ => rfl⟩).symm)
    have HF := H_ (show l[k].t ≠ kind -> ∀ j (hj : j < l.length), j < k + 1 -> l[j].t ≠ kind from fun h j hj hlt => by
     rcases Nat.lt_or_ge j k with h2 | h2
     . exact HK.out.2 j hj h2
     . obtain rfl : j = k := by omega
       exact h)
    clear c0 c1; generalize l[k] = x at *; obtain ⟨t, v⟩ := x; simp only at d0 d1 HT HF
    by_cases ht : t = kind
    . have HT2 := H_ (HT.out ht); subst ht; go_wp2_with fail; go_ret2; exact ⟨⟨v, by rw [HT2.out]; rfl⟩, HK.out.1⟩
    . have HF2 := H_ (HF.out ht); have hq : (t == kind) = false := by simpa using ht
      clear ht; go_wp2_with fail
      go_roundg (len - (k + 1))
      case measure => omega
      case rel => exact ⟨k + 1, by omega, rfl, by go_num, HK.out.1, HF2.out⟩
  . have HE := H_ (show ya = false from (HY.out false ⟨fun h => absurd h (by decide), fun ⟨j, hj, h⟩ => absurd h (HK.out.2 j hj (by have := HLN.out; omega))⟩).symm); go_wp2_with fail; go_ret2; exact ⟨⟨⟨#[]⟩, by rw [HE.out]; rfl⟩, HK.out.1⟩
set_option maxRecDepth 100000 in
theorem rule9_any (l : List Rl) (lv : Value) (ok : Nat -> Prop) (kind : Int) (w : World) (hl : Rls w ok lv l) (hmax : l.length <= 1000000) :
 Calls Tryz.prog 145 #[lv, .int .i64 kind] w fun e w' => e = .returned (.tuple #[.agg #[.int .i64 (ruleOf l kind).t, .int .i64 (ruleOf l kind).len, .int .i64 (ruleOf l kind).min, .int .i64 (ruleOf l kind).max, .string (ruleOf l kind).s], .bool (findR l kind).isSome]) /\ Below w.heap.size w w' := by
 obtain ⟨sa, c, rfl, hc, hm⟩ := hl.form; have H := H_ hl; obtain ⟨len, hln⟩ : ∃ len, len = l.length := ⟨_, rfl⟩; have HLN := H_ hln; have HX := H_ (at1 w (.cells #[.int .i64 0, .int .i64 0, .int .i64 0, .int .i64 0, .string ⟨#[]⟩] 64 (0, 0))); have HB0 := H_ (b1 w (.cells #[.int .i64 0, .int .i64 0, .int .i64 0, .int .i64 0, .string ⟨#[]⟩] 64 (0, 0))); have HH := H_ (fun k (hk : k < l.length) (h : l[k].t = kind) hp => A_ (findR_hit hk h hp) (show ruleOf l kind = l[k] by unfold ruleOf; rw [findR_hit hk h hp]; rfl)); have HM := H_ (fun (hp : ∀ j (hj : j < l.length), l[j].t ≠ kind) => A_ (findR_miss hp) (show ruleOf l kind = ⟨0, 0, 0, 0, ⟨#[]⟩⟩ by unfold ruleOf; rw [findR_miss hp]; rfl)); rw [<- hln] at hc hmax ⊢; generalize ruleOf l kind = ro at *; generalize findR l kind = fo at *; clear hln hl; go_enter Tryz.func145, Tryz.ntmps145; go_wp2_with fail
 go_loopg [6] len (fun x i wr => ∃ k : Nat, k <= len /\ x = len - k /\ i = .int .i64 k /\ Hid (Below w.heap.size w wr /\ wr.heap[w.heap.size]? = some (.cells #[.int .i64 0, .int .i64 0, .int .i64 0, .int .i64 0, .string ⟨#[]⟩] 64 (0, 0)) /\ ∀ j (hj : j < l.length), j < k -> l[j].t ≠ kind))
 case atStart => exact ⟨0, by omega, by omega, rfl, HB0.out, HX.out, fun j _ h => absurd h (Nat.not_lt_zero _)⟩
 case round =>
  obtain ⟨k, hk, rfl, rfl, hK⟩ := hrel; have HK := H_ hK.out; clear hK
  by_cases hkl : k < len
  . have h1 : k < l.length := by have := HLN.out; omega
    obtain ⟨b, off, rfl, hb, -, -, -, -, c0, c1, c2, c3, c4⟩ := H.out.at k h1; have d0 : wr.cell? ⟨b, off + k * 5, none⟩ = _ := (HK.out.1.cell (p := ⟨b, off + k * 5, none⟩) hb).trans c0; have d1 : wr.cell? ⟨b, off + k * 5 + 1, none⟩ = _ := (HK.out.1.cell (p := ⟨b, off + k * 5 + 1, none⟩) hb).trans c1; have d2 : wr.cell? ⟨b, off + k * 5 + 2, none⟩ = _ := (HK.out.1.cell (p := ⟨b, off + k * 5 + 2, none⟩) hb).trans c2; have d3 : wr.cell? ⟨b, off + k * 5 + 3, none⟩ = _ := (HK.out.1.cell (p := ⟨b, off + k * 5 + 3, none⟩) hb).trans c3; have d4 : wr.cell? ⟨b, off + k * 5 + 4, none⟩ = _ := (HK.out.1.cell (p := ⟨b, off + k * 5 + 4, none⟩) hb).trans c4; have x0 : wr.cell? ⟨w.heap.size, 0, none⟩ = some _ := cellOf HK.out.2.1 0 _ rfl; have x1 : wr.cell? ⟨w.heap.size, 1, none⟩ = some _ := cellOf HK.out.2.1 1 _ rfl; have x2 : wr.cell? ⟨w.heap.size, 2, none⟩ = some _ := cellOf HK.out.2.1 2 _ rfl; have x3 : wr.cell? ⟨w.heap.size, 3, none⟩ = some _ := cellOf HK.out.2.1 3 _ rfl; have x4 : wr.cell? ⟨w.heap.size, 4, none⟩ = some _ := cellOf HK.out.2.1 4 _ rfl; have y0 := fzOf HK.out.2.1 0; have y1 := fzOf HK.out.2.1 1; have y2 := fzOf HK.out.2.1 2; have y3 := fzOf HK.out.2.1 3; have y4 := fzOf HK.out.2.1 4; have HT := H_ (HH.out k h1)
    have HF := H_ (show l[k].t ≠ kind -> ∀ j (hj : j < l.length), j < k + 1 -> l[j].t ≠ kind from fun h j hj hlt => by
     rcases Nat.lt_or_ge j k with h2 | h2
     . exact HK.out.2.2 j hj h2
     . obtain rfl : j = k := by omega
       exact h)
    clear c0 c1 c2 c3 c4; generalize l[k] = x at *; obtain ⟨t, ln, mn, mx, sg⟩ := x; simp only at d0 d1 d2 d3 d4 HT HF
    by_cases ht : t = kind
    . have HT2 := H_ (HT.out ht HK.out.2.2); subst ht; clear HT HF; go_wp2_with fail; have hF := set5 HK.out.2.1 (.int .i64 t) (.int .i64 ln) (.int .i64 mn) (.int .i64 mx) (.string sg); have hBF := below5 HK.out.1 (Nat.le_refl w.heap.size) (b := w.heap.size) (.int .i64 t) (.int .i64 ln) (.int .i64 mn) (.int .i64 mx) (.string sg); generalize (((((wr.setCell ⟨w.heap.size, 0, none⟩ (.int .i64 t)).setCell ⟨w.heap.size, 1, none⟩ (.int .i64 ln)).setCell ⟨w.heap.size, 2, none⟩ (.int .i64 mn)).setCell ⟨w.heap.size, 3, none⟩ (.int .i64 mx)).setCell ⟨w.heap.size, 4, none⟩ (.string sg)) = WF at *; have z0 : WF.cell? ⟨w.heap.size, 0, none⟩ = some (.int .i64 t) := cellOf hF 0 _ rfl; have z1 : WF.cell? ⟨w.heap.size, 1, none⟩ = some (.int .i64 ln) := cellOf hF 1 _ rfl; have z2 : WF.cell? ⟨w.heap.size, 2, none⟩ = some (.int .i64 mn) := cellOf hF 2 _ rfl; have z3 : WF.cell? ⟨w.heap.size, 3, none⟩ = some (.int .i64 mx) := cellOf hF 3 _ rfl; have z4 : WF.cell? ⟨w.heap.size, 4, none⟩ = some (.string sg) := cellOf hF 4 _ rfl; exact bodyPost_ret (v := .tuple #[.agg #[(.int .i64 t), (.int .i64 ln), (.int .i64 mn), (.int .i64 mx), (.string sg)], .bool true]) (by simp [results, Tryz.results145, go_sem, z0, z1, z2, z3, z4]) rfl ⟨by rw [HT2.out.1, HT2.out.2]; rfl, hBF⟩
    . have HF2 := H_ (HF.out ht); have hq : (t == kind) = false := by simpa using ht
      clear ht; go_wp2_with fail
      go_roundg (len - (k + 1))
      case measure => omega
      case rel => exact ⟨k + 1, by omega, rfl, by go_num, HK.out.1, HK.out.2.1, HF2.out⟩
  . have HE := H_ (HM.out fun j hj => HK.out.2.2 j hj (by have := HLN.out; omega)); have x0 : wr.cell? ⟨w.heap.size, 0, none⟩ = some _ := cellOf HK.out.2.1 0 _ rfl; have x1 : wr.cell? ⟨w.heap.size, 1, none⟩ = some _ := cellOf HK.out.2.1 1 _ rfl; have x2 : wr.cell? ⟨w.heap.size, 2, none⟩ = some _ := cellOf HK.out.2.1 2 _ rfl; have x3 : wr.cell? ⟨w.heap.size, 3, none⟩ = some _ := cellOf HK.out.2.1 3 _ rfl; have x4 : wr.cell? ⟨w.heap.size, 4, none⟩ = some _ := cellOf HK.out.2.1 4 _ rfl; have y0 := fzOf HK.out.2.1 0; have y1 := fzOf HK.out.2.1 1; have y2 := fzOf HK.out.2.1 2; have y3 := fzOf HK.out.2.1 3; have y4 := fzOf HK.out.2.1 4; go_wp2_with fail; have hF := set5 HK.out.2.1 (.int .i64 0) (.int .i64 0) (.int .i64 0) (.int .i64 0) (.string ⟨#[]⟩); have hBF := below5 HK.out.1 (Nat.le_refl w.heap.size) (b := w.heap.size) (.int .i64 0) (.int .i64 0) (.int .i64 0) (.int .i64 0) (.string ⟨#[]⟩); generalize (((((wr.setCell ⟨w.heap.size, 0, none⟩ (.int .i64 0)).setCell ⟨w.heap.size, 1, none⟩ (.int .i64 0)).setCell ⟨w.heap.size, 2, none⟩ (.int .i64 0)).setCell ⟨w.heap.size, 3, none⟩ (.int .i64 0)).setCell ⟨w.heap.size, 4, none⟩ (.string ⟨#[]⟩)) = WF at *; have z0 : WF.cell? ⟨w.heap.size, 0, none⟩ = some (.int .i64 0) := cellOf hF 0 _ rfl; have z1 : WF.cell? ⟨w.heap.size, 1, none⟩ = some (.int .i64 0) := cellOf hF 1 _ rfl; have z2 : WF.cell? ⟨w.heap.size, 2, none⟩ = some (.int .i64 0) := cellOf hF 2 _ rfl; have z3 : WF.cell? ⟨w.heap.size, 3, none⟩ = some (.int .i64 0) := cellOf hF 3 _ rfl; have z4 : WF.cell? ⟨w.heap.size, 4, none⟩ = some (.string ⟨#[]⟩) := cellOf hF 4 _ rfl; exact bodyPost_ret (v := .tuple #[.agg #[(.int .i64 0), (.int .i64 0), (.int .i64 0), (.int .i64 0), (.string ⟨#[]⟩)], .bool false]) (by simp [results, Tryz.results145, go_sem, z0, z1, z2, z3, z4]) rfl ⟨by rw [HE.out.1, HE.out.2]; rfl, hBF⟩
structure JInv (w wr : World) (rej nak : Value) (rl nl : List Opt) : Prop where
 r : BRow 91 2 wr rej rl.length (oV rl)
 n : BRow 91 2 wr nak nl.length (oV nl)
 rf : ∀ g, rej.ownBlock = some g -> w.heap.size <= g
 nf : ∀ g, nak.ownBlock = some g -> w.heap.size <= g
 ne : ∀ g, rej.ownBlock = some g -> nak.ownBlock = some g -> False
 b : Below w.heap.size w wr
theorem JInv.below {w wr w' : World} {rej nak : Value} {rl nl : List Opt} (h : JInv w wr rej nak rl nl) (hb : Below wr.heap.size wr w') : JInv w w' rej nak rl nl :=
 { h with r := h.r.below hb, n := h.n.below hb, b := h.b.trans (hb.mono h.b.size) }
theorem JInv.rej {w wr w1 w6 : World} {rej nak v' : Value} {rl nl : List Opt} {o : Opt} (h : JInv w wr rej nak rl nl) (hb : Below wr.heap.size wr w1) (h6 : BRow 91 2 w6 v' (rl.length + 1) (oV rl ++ o.cells)) (k6 : Keep (fun g => rej.ownBlock = some g) w1 w6)
 (o6 : v'.ownBlock = rej.ownBlock \/ v'.ownBlock = some w1.heap.size) : JInv w w6 v' nak (rl ++ [o]) nl where
 r := by
  have e : oV (rl ++ [o]) = oV rl ++ o.cells := by rw [oV_app]; simp [oV, optL]
  rw [e, List.length_append]; exact h6
 n := (h.n.below hb).keep k6 fun g h1 h2 => h.ne g h2 h1
 rf := fun g hg => by
  rcases o6 with h1 | h1
  . rw [h1] at hg; exact h.rf g hg
  . rw [h1] at hg; cases hg; exact Nat.le_trans h.b.size hb.size
 nf := h.nf
 ne := fun g hg hn => by
  rcases o6 with h1 | h1
  . rw [h1] at hg; exact h.ne g hg hn
  . rw [h1] at hg; cases hg; have := (h.n.blk hn).1; have := hb.size; omega
 b := (h.b.trans (hb.mono h.b.size)).trans (k6.below (Nat.le_trans h.b.size hb.size) fun g hg he => by have := h.rf g he; omega)
theorem JInv.nak {w wr w1 w6 : World} {rej nak v' : Value} {rl nl : List Opt} {o : Opt} (h : JInv w wr rej nak rl nl) (hb : Below wr.heap.size wr w1) (h6 : BRow 91 2 w6 v' (nl.length + 1) (oV nl ++ o.cells)) (k6 : Keep (fun g => nak.ownBlock = some g) w1 w6)
 (o6 : v'.ownBlock = nak.ownBlock \/ v'.ownBlock = some w1.heap.size) : JInv w w6 rej v' rl (nl ++ [o]) where
 r := (h.r.below hb).keep k6 fun g h1 h2 => h.ne g h1 h2
 n := by
  have e : oV (nl ++ [o]) = oV nl ++ o.cells := by rw [oV_app]; simp [oV, optL]
  rw [e, List.length_append]; exact h6
 rf := h.rf
 nf := fun g hg => by
  rcases o6 with h1 | h1
  . rw [h1] at hg; exact h.nf g hg
  . rw [h1] at hg; cases hg; exact Nat.le_trans h.b.size hb.size
 ne := fun g hg hn => by
  rcases o6 with h1 | h1
  . rw [h1] at hn; exact h.ne g hg hn
  . rw [h1] at hn; cases hn; have := (h.r.blk hg).1; have := hb.size; omega
 b := (h.b.trans (hb.mono h.b.size)).trans (k6.below (Nat.le_trans h.b.size hb.size) fun g hg he => by have := h.nf g he; omega)
theorem JInv.nil (w : World) : JInv w w (.slice none 0 0) (.slice none 0 0) [] [] where
 r := BRow.nil _ _ _
 n := BRow.nil _ _ _
 rf := fun g h => by cases h
 nf := fun g h => by cases h
 ne := fun g h => by cases h
 b := Below.refl _ _
def J9At (rs : List Rl) (l : List Opt) (w wr : World) (rej nak : Value) (k : Nat) : Prop :=
 ∃ rl nl, JInv w wr rej nak rl nl /\ rl = rejP (fun k => (findR rs k).isSome) [] (l.take k) /\ (rl = [] -> nl = nakP (fun o => fitsR (ruleOf rs o.t) o.v) (fun k => (ruleOf rs k).s) (l.take k)) /\ rl.length <= k /\ nl.length <= k
set_option maxRecDepth 100000 in
theorem judge9_any (rs : List Rl) (rv : Value) (okr : Nat -> Prop) (l : List Opt) (lv : Value) (ok : Nat -> Prop) (w : World) (hr : Rls w okr rv rs) (hrm : rs.length <= 1000000) (hl : Opts w ok lv l) (hmax : l.length <= 1000) (hnil : ∀ n c, lv = .slice none n c -> c = 0)
 (hv : ∀ o ∈ l, o.v.size <= 100000) :
 Calls Tryz.prog 26 #[rv, lv] w fun e w' => ∃ v, e = .returned (.tuple #[.int .i64 (judgeS rs l).1, v]) /\ Laid 91 2 w w' v (judgeS rs l).2.length (oV (judgeS rs l).2) := by
 obtain ⟨sa, c, rfl, hc, hm⟩ := hl.form; obtain ⟨sr, cr, rfl, hcr, hmr⟩ := hr.form; have hn0 : sa = none -> l.length = 0 /\ c = 0 := fun h => by subst h; have := hnil _ _ rfl; omega
 have hfl : ∀ ad, sa = some ad -> ∀ j u, (oV l)[j]? = some u -> w.cell? (ad.add j) = some u := fun ad h => by subst h; exact Rec.flat (by decide) hl
 have HF := H_ (A_ hn0 (A_ hfl (A_ (oV_len l) (oV_one l)))); have H := H_ (A_ hr (A_ hl hv)); obtain ⟨len, hln⟩ : ∃ len, len = l.length := ⟨_, rfl⟩; have HLN := H_ hln; rw [<- hln] at hc hmax HF ⊢; clear hr hl hv hn0 hfl hnil hln; go_enter Tryz.func26, Tryz.ntmps26; go_wp2_with fail
 go_loopg [6, 7, 8] len (fun x rej nak i wr => ∃ k : Nat, k <= len /\ x = len - k /\ i = .int .i64 k /\ Hid (J9At rs l w wr rej nak k))
 case atStart => exact ⟨0, by omega, by omega, rfl, [], [], JInv.nil w, rfl, fun _ => rfl, Nat.le_refl _, Nat.le_refl _⟩
 case round =>
  obtain ⟨k, hk, rfl, rfl, hK⟩ := hrel; obtain ⟨rl, nl, hJ, hrl, hnl, hrk, hnk⟩ := hK.out; have HK := H_ (A_ hJ (A_ hrl hnl)); clear hK hrl hnl; obtain ⟨s6, q6, rfl, -, -⟩ := hJ.r.form; obtain ⟨s7, q7, rfl, -, -⟩ := hJ.n.form; clear hJ
  by_cases hkl : k < len
  . have h1 : k < l.length := by have := HLN.out; omega
    obtain ⟨b, off, rfl, hb, -, -, -, -, c0, c1⟩ := H.out.2.1.at k h1; have HC0 := H_ (fun W (hW : Below w.heap.size w W) => A_ ((hW.cell (p := ⟨b, off + k * 2, none⟩) hb).trans c0) ((hW.cell (p := ⟨b, off + k * 2 + 1, none⟩) hb).trans c1)); have HT := H_ (show l.take (k + 1) = l.take k ++ [l[k]] from List.take_succ_eq_append_getElem h1); have HTK := H_ (show (l.take k).length <= 1000000 by rw [List.length_take]; omega); have hsz := H.out.2.2 _ (List.getElem_mem h1); clear c0 c1; generalize l[k] = o at *; obtain ⟨t, v⟩ := o; simp only at HC0 hsz
    obtain ⟨d0, d1⟩ := HC0.out wr HK.out.1.b; have HRU := H_ (rule9_any rs _ okr t wr (H.out.1.below HK.out.1.b) hrm); have hre : ruleOf rs t = ⟨(ruleOf rs t).t, (ruleOf rs t).len, (ruleOf rs t).min, (ruleOf rs t).max, (ruleOf rs t).s⟩ := rfl; have HRE := H_ (rfl : ruleOf rs t = ruleOf rs t); generalize hro : ruleOf rs t = ro at HRU; generalize hfo : (findR rs t).isSome = yb at HRU; have HRO := H_ (A_ hro hfo); clear hre HRE hro hfo; obtain ⟨r1, r2, r3, r4, r5⟩ := ro; simp only at HRU
    go_wp2_with fail; refine HRU.out.mono ?_; rintro e w5 ⟨rfl, hb5⟩; have HB5 := H_ hb5; clear hb5; go_wp2_with fail; have hb6 := b1 w5 (.cells #[.int .i64 r1, .int .i64 r2, .int .i64 r3, .int .i64 r4, .string r5] 64 (0, 0)); have hz6 : (w5.alloc (.cells #[.int .i64 r1, .int .i64 r2, .int .i64 r3, .int .i64 r4, .string r5] 64 (0, 0))).heap[w5.heap.size]? = some _ := heap_alloc_new w5 _; have HJ6 := H_ (A_ ((HK.out.1.below HB5.out).below hb6) hz6); clear hb6 hz6 d0 d1; generalize w5.alloc (.cells #[.int .i64 r1, .int .i64 r2, .int .i64 r3, .int .i64 r4, .string r5] 64 (0, 0)) = w6 at *
    have hRJ : rejOne (fun k => (findR rs k).isSome) (l.take k) ⟨t, v⟩ = ((l.take k).any (fun x => x.t == t) || !yb) := by
     unfold rejOne; rw [<- HRO.out.2]
    have HFD := H_ (fun W (hW : Below w.heap.size w W) => find9_any (l.take k) _ ok t W (Opts.take (H.out.2.1.below hW) k (by omega)) HTK.out); generalize ((l.take k).any (fun x => x.t == t)) = tb at *; have HRJ' := H_ hRJ; clear hRJ; refine wp_region_H (rgH 0 14) (fun Y : World => Y.cell? ⟨b, off + k * 2, none⟩ = some (.int .i64 t)) (by kernel_rfl) ?_; have HSv : (fun Y : World => Y.cell? ⟨b, off + k * 2, none⟩ = some (.int .i64 t)) w6.drew := (HC0.out w6.drew HJ6.out.1.b.drew).1; have hkc : k <= c := by omega
    refine hatH 0 rfl (by rintro W h0; go_simp; try rfl) HSv ?_; simp only [aZ, aC, aD]; refine hatH 1 rfl (by rintro W h0; go_simp; try rfl) HSv ?_; simp only [aZ, aC, aD]; refine hatH 2 rfl (by rintro W h0; go_simp; try rfl) HSv ?_; simp only [aZ, aC, aD]; refine hatH 3 rfl (by rintro W h0; go_simp; try rfl) HSv ?_; simp only [aZ, aC, aD]; refine hatH 4 rfl (by rintro W h0; go_simp; try rfl) HSv ?_; simp only [aZ, aC, aD]; refine hatH 5 rfl (by rintro W h0; go_simp; try rfl) HSv ?_; simp only [aZ, aC, aD]; refine hatH 6 rfl (by rintro W h0; go_simp; try rfl) HSv ?_; simp only [aZ, aC, aD]; refine hatH 7 rfl (by rintro W h0; go_simp; try rfl) HSv ?_; simp only [aZ, aC, aD]; refine hone 8 rfl fun K hK => ?_
    try go_simp
    go_at_call 146; refine (HFD.out w6.drew HJ6.out.1.b.drew).mono ?_; rintro e w7 ⟨⟨s0, rfl⟩, hb7'⟩; have hb7 : Below w6.heap.size w6 w7 := Below.trans (Below.refl _ _).drew hb7'; have HJ7 := H_ (A_ (HJ6.out.1.below hb7) ((hb7.block _ (Array.getElem?_eq_some_iff.1 HJ6.out.2).1).trans HJ6.out.2)); have HSv : w7.cell? ⟨b, off + k * 2, none⟩ = some (.int .i64 t) := (HC0.out w7 HJ7.out.1.b).1; clear hb7 hb7' HJ6; refine hK _ _ (fun _ => HSv) ?_
    try simp only [aZ, aA, aE, aB, aC, aD]
    refine hatH 9 rfl (by rintro W h0; go_simp; try rfl) HSv ?_; simp only [aZ, aC, aD]; refine hatH 10 rfl (by rintro W h0; go_simp; try rfl) HSv ?_; simp only [aZ, aC, aD]; refine hatH 11 rfl (by rintro W h0; go_simp; try rfl) HSv ?_; simp only [aZ, aC, aD]; refine hatH 12 rfl (by rintro W h0; go_simp; try rfl) HSv ?_; simp only [aZ, aC, aD]; refine hatH 13 rfl (by rintro W h0; go_simp; try rfl) HSv ?_; simp only [aZ, aC, aD]; refine hend 14 ?_; simp only [aF, aG]; have HE7 := HC0.out w7 HJ7.out.1.b; obtain ⟨e0, e1⟩ := HE7
    by_cases hyb : yb = false
    . subst hyb; have HRJ := H_ (show rejOne (fun k => (findR rs k).isSome) (l.take k) ⟨t, v⟩ = true by rw [HRJ'.out]; simp)
      go_wp2_with (
       at_builtin; refine wpl_append_rec opt_row rfl _ _ rfl _ rl.length (oV rl) rfl (HJ7.out.1.r.below (b1 _ _)) _ _ [.int .i64 t, .string v] rfl (cell_of_at _ _ _ rfl) rfl (fun u hu => by simp only [List.mem_cons, List.not_mem_nil, or_false] at hu; rcases hu with rfl | rfl <;> rfl) (by omega) ?_
       intro g8 c8 w8 h8 k8 o8; have H8 := H_ (HJ7.out.1.rej (o := ⟨t, v⟩) (b1 _ _) h8 k8 (o8.imp (fun h => h.symm) (fun h => by rw [h]; rfl)))
       clear h8 k8 o8)
      go_roundg (len - (k + 1))
      case measure => omega
      case rel =>
       refine ⟨k + 1, by omega, rfl, by go_num, rl ++ [⟨t, v⟩], nl, ?_, ?_, fun h => absurd h (by simp), by simp; omega, by omega⟩
       . exact H8.out
       . rw [HT.out, rejP_snoc, <- HK.out.2.1, List.nil_append, if_pos HRJ.out]
    obtain rfl : yb = true := by simpa using hyb
    clear hyb
    by_cases htb : tb = true
    . subst htb; have HRJ := H_ (show rejOne (fun k => (findR rs k).isSome) (l.take k) ⟨t, v⟩ = true by rw [HRJ'.out]; simp)
      go_wp2_with (
       at_builtin; refine wpl_append_rec opt_row rfl _ _ rfl _ rl.length (oV rl) rfl (HJ7.out.1.r.below (b1 _ _)) _ _ [.int .i64 t, .string v] rfl (cell_of_at _ _ _ rfl) rfl (fun u hu => by simp only [List.mem_cons, List.not_mem_nil, or_false] at hu; rcases hu with rfl | rfl <;> rfl) (by omega) ?_
       intro g8 c8 w8 h8 k8 o8; have H8 := H_ (HJ7.out.1.rej (o := ⟨t, v⟩) (b1 _ _) h8 k8 (o8.imp (fun h => h.symm) (fun h => by rw [h]; rfl)))
       clear h8 k8 o8)
      go_roundg (len - (k + 1))
      case measure => omega
      case rel =>
       refine ⟨k + 1, by omega, rfl, by go_num, rl ++ [⟨t, v⟩], nl, ?_, ?_, fun h => absurd h (by simp), by simp; omega, by omega⟩
       . exact H8.out
       . rw [HT.out, rejP_snoc, <- HK.out.2.1, List.nil_append, if_pos HRJ.out]
    obtain rfl : tb = false := by simpa using htb
    clear htb; have HRJ := H_ (show ¬ rejOne (fun k => (findR rs k).isSome) (l.take k) ⟨t, v⟩ = true by rw [HRJ'.out]; simp); have HNR := H_ (show rl = rejP (fun k => (findR rs k).isSome) [] (l.take (k + 1)) by rw [HT.out, rejP_snoc, <- HK.out.2.1, List.nil_append, if_neg HRJ.out, List.append_nil]); have HNK := H_ (nakP_snoc (fun o => fitsR (ruleOf rs o.t) o.v) (fun k => (ruleOf rs k).s) (l.take k) ⟨t, v⟩); rw [<- HT.out] at HNK; simp only at HNK
    rw [HRO.out.1] at HNK; have HFI := H_ (fun W => fits9_any ⟨r1, r2, r3, r4, r5⟩ v W hsz); simp only at HFI HNK
    generalize fitsR ⟨r1, r2, r3, r4, r5⟩ v = fb at *; go_wp2_with fail; refine wp_region_H (rgH 0 9) (fun Y : World => Y.cell? ⟨w5.heap.size, 0, none⟩ = some (.int .i64 r1) /\ Y.cell? ⟨w5.heap.size, 1, none⟩ = some (.int .i64 r2) /\ Y.cell? ⟨w5.heap.size, 2, none⟩ = some (.int .i64 r3) /\ Y.cell? ⟨w5.heap.size, 3, none⟩ = some (.int .i64 r4) /\ Y.cell? ⟨w5.heap.size, 4, none⟩ = some (.string r5) /\ Y.cell? ⟨b, off + k * 2 + 1, none⟩ = some (.string v)) (by kernel_rfl) ?_
    have HSW : Hid (∀ W, Below w7.heap.size w7 W -> W.cell? ⟨w5.heap.size, 0, none⟩ = some (.int .i64 r1) /\ W.cell? ⟨w5.heap.size, 1, none⟩ = some (.int .i64 r2) /\ W.cell? ⟨w5.heap.size, 2, none⟩ = some (.int .i64 r3) /\ W.cell? ⟨w5.heap.size, 3, none⟩ = some (.int .i64 r4) /\ W.cell? ⟨w5.heap.size, 4, none⟩ = some (.string r5) /\ W.cell? ⟨b, off + k * 2 + 1, none⟩ = some (.string v)) := H_ fun W hW =>
     have hx := (hW.block _ (Array.getElem?_eq_some_iff.1 HJ7.out.2).1).trans HJ7.out.2
     ⟨cellOf hx 0 _ rfl, cellOf hx 1 _ rfl, cellOf hx 2 _ rfl, cellOf hx 3 _ rfl, cellOf hx 4 _ rfl, (HC0.out W (HJ7.out.1.b.trans (hW.mono HJ7.out.1.b.size))).2⟩
    have HSv := HSW.out w7.drew (Below.refl _ _).drew; refine hatH 0 rfl (by rintro W ⟨h0, h1, h2, h3, h4, h5⟩; go_simp; try rfl) HSv ?_; simp only [aZ, aC, aD]; refine hatH 1 rfl (by rintro W ⟨h0, h1, h2, h3, h4, h5⟩; go_simp; try rfl) HSv ?_; simp only [aZ, aC, aD]; refine hatH 2 rfl (by rintro W ⟨h0, h1, h2, h3, h4, h5⟩; go_simp; try rfl) HSv ?_; simp only [aZ, aC, aD]; refine hatH 3 rfl (by rintro W ⟨h0, h1, h2, h3, h4, h5⟩; go_simp; try rfl) HSv ?_; simp only [aZ, aC, aD]; refine hatH 4 rfl (by rintro W ⟨h0, h1, h2, h3, h4, h5⟩; go_simp; try rfl) HSv ?_; simp only [aZ, aC, aD]; refine hatH 5 rfl (by rintro W ⟨h0, h1, h2, h3, h4, h5⟩; go_simp; try rfl) HSv ?_; simp only [aZ, aC, aD]; refine hone 6 rfl fun K hK => ?_
    try go_simp
    go_at_call 32; refine (HFI.out w7.drew).mono ?_; rintro e w8 ⟨rfl, hb8'⟩; have hb8 : Below w7.heap.size w7 w8 := Below.trans (Below.refl _ _).drew hb8'; have HSv := HSW.out w8 hb8; have HJ8 := H_ (A_ (HJ7.out.1.below hb8) ((hb8.block _ (Array.getElem?_eq_some_iff.1 HJ7.out.2).1).trans HJ7.out.2)); clear hb8 hb8'; refine hK _ _ (fun _ => HSv) ?_
    try simp only [aZ, aA, aE, aB, aC, aD]
    refine hatH 7 rfl (by rintro W ⟨h0, h1, h2, h3, h4, h5⟩; go_simp; try rfl) HSv ?_; simp only [aZ, aC, aD]; refine hatH 8 rfl (by rintro W ⟨h0, h1, h2, h3, h4, h5⟩; go_simp; try rfl) HSv ?_; simp only [aZ, aC, aD]; refine hend 9 ?_; simp only [aF, aG]
    cases fb with
    | true =>
     go_wp2_with fail
     go_roundg (len - (k + 1))
     case measure => omega
     case rel =>
      refine ⟨k + 1, by omega, rfl, by go_num, rl, nl, HJ8.out.1, HNR.out, fun h => ?_, by omega, by omega⟩; rw [HNK.out, <- HK.out.2.2 h]; simp
    | false =>
     go_wp2_with fail; refine wp_region_H (rgH 0 12) (fun Y : World => Y.cell? ⟨w5.heap.size, 4, none⟩ = some (.string r5) /\ Y.cell? ⟨b, off + k * 2, none⟩ = some (.int .i64 t)) (by kernel_rfl) ?_
     have HSX : Hid (∀ W, Below w.heap.size w W -> W.heap[w5.heap.size]? = some (.cells #[.int .i64 r1, .int .i64 r2, .int .i64 r3, .int .i64 r4, .string r5] 64 (0, 0)) -> W.cell? ⟨w5.heap.size, 4, none⟩ = some (.string r5) /\ W.cell? ⟨b, off + k * 2, none⟩ = some (.int .i64 t)) := H_ fun W hW hx =>
      ⟨cellOf hx 4 _ rfl, (HC0.out W hW).1⟩
     have HSv := HSX.out w8.drew HJ8.out.1.b.drew HJ8.out.2; refine hatH 0 rfl (by rintro W ⟨h0, h1⟩; go_simp; try rfl) HSv ?_; simp only [aZ, aC, aD]; refine hatH 1 rfl (by rintro W ⟨h0, h1⟩; go_simp; try rfl) HSv ?_; simp only [aZ, aC, aD]; refine hatH 2 rfl (by rintro W ⟨h0, h1⟩; go_simp; try rfl) HSv ?_; simp only [aZ, aC, aD]; refine hatH 3 rfl (by rintro W ⟨h0, h1⟩; go_simp; try rfl) HSv ?_; simp only [aZ, aC, aD]; refine hatH 4 rfl (by rintro W ⟨h0, h1⟩; go_simp; try rfl) HSv ?_; simp only [aZ, aC, aD]; refine hatH 5 rfl (by rintro W ⟨h0, h1⟩; go_simp; try rfl) HSv ?_; simp only [aZ, aC, aD]; refine hatH 6 rfl (by rintro W ⟨h0, h1⟩; go_simp; try rfl) HSv ?_; simp only [aZ, aC, aD]; refine hatH 7 rfl (by rintro W ⟨h0, h1⟩; go_simp; try rfl) HSv ?_; simp only [aZ, aC, aD]; refine hatH 8 rfl (by rintro W ⟨h0, h1⟩; go_simp; try rfl) HSv ?_; simp only [aZ, aC, aD]; refine hone 9 rfl fun K hK => ?_
     try go_simp
     have hb9 : Below w8.heap.size w8 (w8.drew.alloc (.cells #[.int .i64 t, .string r5] 91 (0, 0))) := Below.trans (Below.refl _ _).drew (b1 w8.drew _); have HSv := HSX.out _ (HJ8.out.1.b.trans (hb9.mono HJ8.out.1.b.size)) ((hb9.block _ (Array.getElem?_eq_some_iff.1 HJ8.out.2).1).trans HJ8.out.2); refine hK _ _ (fun _ => HSv) ?_
     try simp only [aZ, aA, aE, aB, aC, aD]
     refine wpAnyH_1 10 rfl (by kernel_rfl) ?_; intro K hK; refine step_append_rec opt_row rfl _ _ rfl _ nl.length (oV nl) rfl (HJ8.out.1.n.below hb9) _ _ [.int .i64 t, .string r5] rfl (cell_of_at _ _ _ rfl) rfl (fun u hu => by simp only [List.mem_cons, List.not_mem_nil, or_false] at hu; rcases hu with rfl | rfl <;> rfl) (by omega) ?_; intro g9 c9 w9 h9 k9 o9; have H9 := H_ (HJ8.out.1.nak (o := ⟨t, r5⟩) hb9 h9 k9 (o9.imp (fun h => h.symm) (fun h => by rw [h]; rfl))); have hrb : (w8.drew.alloc (.cells #[.int .i64 t, .string r5] 91 (0, 0))).heap[w5.heap.size]? = some _ := (hb9.block _ (Array.getElem?_eq_some_iff.1 HJ8.out.2).1).trans HJ8.out.2
     have HSv := HSX.out w9 H9.out.b ((k9.block _ (Array.getElem?_eq_some_iff.1 hrb).1 (fun he => by
      have h1 := (HJ8.out.1.n.blk he).2; obtain ⟨cur, h1⟩ := h1; rw [HJ8.out.2] at h1
      cases h1)).trans hrb)
     clear h9 k9 o9 hrb hb9; refine hK _ _ (fun _ => HSv) ?_
     try simp only [aZ, aA, aE, aB, aC, aD]
     refine hatH 11 rfl (by rintro W ⟨h0, h1⟩; go_simp; try rfl) HSv ?_; simp only [aZ, aC, aD]; refine hend 12 ?_; simp only [aF, aG]; go_wp2_with fail
     go_roundg (len - (k + 1))
     case measure => omega
     case rel =>
      refine ⟨k + 1, by omega, rfl, by go_num, rl, nl ++ [⟨t, r5⟩], H9.out, HNR.out, fun h => ?_, by omega, by simp; omega⟩; rw [HNK.out, <- HK.out.2.2 h]; simp
  . obtain rfl : len = k := by omega
    have hta : l.take len = l := List.take_of_length_le (by have := HLN.out; omega); rw [hta] at HK
    by_cases hr0 : rl.length = 0
    . have hrn : rl = [] := List.eq_nil_of_length_eq_zero hr0
      by_cases hn0 : nl.length = 0
      . have HV := H_ (show judgeS rs l = (2, l) by
         unfold judgeS answerS
         rw [<- HK.out.2.1, <- HK.out.2.2 hrn, if_neg (by simpa using hr0), if_neg (by simpa using hn0)])
        have HL0 := H_ (A_ HK.out.1.b HLN.out)
        go_wp2_with (
         at_builtin; refine wpl_append_fl opt_row rfl _ _ rfl _ 0 [] rfl (BRow.nil _ _ _) sa len c (oV l) rfl HF.out.1 (fun ad ha j u hu => ?hf) HF.out.2.2.1 HF.out.2.2.2 (by omega) ?_
         case hf =>
          exact Rec.flat (by decide) (show Opts wr ok (.slice (some ad) l.length c) l by rw [<- ha]; exact H.out.2.1.below HL0.out.1) j u hu
         intro v6 w6 h6 k6 o6; rw [Nat.zero_add, List.nil_append] at h6; have H6 := H_ (A_ h6 (A_ k6 o6))
         clear h6 k6 o6)
        go_ret2; rw [HV.out]; refine ⟨v6, rfl, ?_⟩; have h6 := H6.out.1; rw [HLN.out] at h6; refine ⟨h6, HL0.out.1.trans (H6.out.2.1.below HL0.out.1.size fun g hg he => ?_), fun g hg => ?_⟩
        . have h7 : (Value.slice none 0 0).ownBlock = some g := he; cases h7
        . rcases H6.out.2.2 with h7 | h7
          . have h8 : v6.ownBlock = none := h7; rw [h8] at hg; cases hg
          . rw [h7] at hg; cases hg; exact HL0.out.1.size
      . have HV := H_ (show judgeS rs l = (3, nl) by
         unfold judgeS answerS
         rw [<- HK.out.2.1, <- HK.out.2.2 hrn, if_neg (by simpa using hr0), if_pos (by simpa using hn0)])
        have hq : (0 : Int) < (nl.length : Int) := by omega
        go_wp2_with fail; go_ret2; rw [HV.out]; exact ⟨_, rfl, HK.out.1.n, HK.out.1.b, HK.out.1.nf⟩
    . have HV := H_ (show judgeS rs l = (4, rl) by
       unfold judgeS answerS
       rw [<- HK.out.2.1, if_pos (by simpa using hr0)])
      have hq : (0 : Int) < (rl.length : Int) := by omega
      go_wp2_with fail; go_ret2; rw [HV.out]; exact ⟨_, rfl, HK.out.1.r, HK.out.1.b, HK.out.1.rf⟩
set_option maxRecDepth 100000 in
theorem put9_any (l : List Opt) (lv : Value) (ok : Nat -> Prop) (w : World) (hl : Opts w ok lv l) (hmax : l.length <= 1000000) (hv : ∀ o ∈ l, o.v.size <= 100000) :
 Calls Tryz.prog 166 #[lv] w fun e w' => e = .returned (.tuple #[.string (putS l), .int .i64 (putE l)]) /\ Below w.heap.size w w' := by
 obtain ⟨sa, c, rfl, hc, hm⟩ := hl.form; have HL := H_ (A_ hl hv); obtain ⟨len, hln⟩ : ∃ len, len = l.length := ⟨_, rfl⟩; have HLN := H_ hln; rw [<- hln] at hc hmax ⊢; unfold maxLen at hm
 by_cases h30 : 30 < len
 . have HS := H_ (show putE l = 2 from by unfold putE; rw [if_pos (by omega)]); have HT := H_ (show putS l = ⟨#[]⟩ from by unfold putS; rw [HS.out]; rfl); have hd : decide ((30 : Int) < (len : Int)) = true := by simp; omega
   clear hl hv hln; go_enter Tryz.func166, Tryz.ntmps166; go_wp2_with fail; go_ret2; exact ⟨by rw [HS.out, HT.out]; rfl, Below.refl _ _⟩
 . have hd : decide ((30 : Int) < (len : Int)) = false := by simp; omega
   clear hl hv hln
   have HBAD := H_ (fun (k : Nat) (hk : k < l.length) (h : badO l[k] = true) => show putE l = 1 /\ putS l = ⟨#[]⟩ from by
    have h1 : putE l = 1 := by unfold putE; rw [if_neg (by have := HLN.out; omega), if_pos (List.any_eq_true.2 ⟨_, List.getElem_mem hk, h⟩)]
    exact ⟨h1, by unfold putS; rw [h1]; rfl⟩)
   go_enter Tryz.func166, Tryz.ntmps166; go_wp2_with fail
   go_loopg [4, 5] len (fun x s i wr => ∃ k : Nat, k <= len /\ x = len - k /\ i = .int .i64 k /\ s = .string (putB (l.take k)) /\ Hid (Below w.heap.size w wr /\ ∀ j (hj : j < l.length), j < k -> 1 <= l[j].t /\ l[j].t <= 255 /\ l[j].v.size <= 253))
   case atStart => exact ⟨0, by omega, by omega, rfl, rfl, Below.refl _ _, fun j _ h => absurd h (Nat.not_lt_zero _)⟩
   case round =>
    obtain ⟨k, hk, rfl, rfl, rfl, hK⟩ := hrel; have HK := H_ hK.out; clear hK
    have hgood : ∀ o ∈ l.take k, o.v.size <= 253 := fun o ho => by
     obtain ⟨j, hj, rfl⟩ := List.mem_iff_getElem.1 ho; rw [List.getElem_take]; rw [List.length_take] at hj; exact (HK.out.2 j (by omega) (by omega)).2.2
    have hps : (putB (l.take k)).size <= 255 * 30 := by
     have := putB_size (l.take k) hgood; rw [List.length_take] at this; omega
    clear hgood
    by_cases hkl : k < len
    . have hkl' : k < l.length := by have := HLN.out; omega
      obtain ⟨b, off, rfl, hb, -, -, -, -, c0, c1⟩ := HL.out.1.at k hkl'; have hvs := HL.out.2 _ (List.getElem_mem hkl'); have HC := H_ (fun W (hW : Below w.heap.size w W) => A_ ((hW.cell (p := ⟨b, off + k * 2, none⟩) hb).trans c0) ((hW.cell (p := ⟨b, off + k * 2 + 1, none⟩) hb).trans c1)); have HP := H_ (show putB (l.take (k + 1)) = putB (l.take k) ++ optB l[k] from by rw [List.take_succ_eq_append_getElem hkl', putB_snoc]); have HB := H_ (HBAD.out k hkl')
      have HN := H_ (show (1 <= l[k].t /\ l[k].t <= 255 /\ l[k].v.size <= 253) -> ∀ j (hj : j < l.length), j < k + 1 -> 1 <= l[j].t /\ l[j].t <= 255 /\ l[j].v.size <= 253 from fun h j hj hlt => by
       rcases Nat.lt_or_ge j k with h2 | h2
       . exact HK.out.2 j hj h2
       . obtain rfl : j = k := by omega
         exact h)
      clear c0 c1; obtain ⟨d0, d1⟩ := HC.out wr HK.out.1; generalize putB (l.take k) = out at *; generalize l[k] = o at *; obtain ⟨t, v⟩ := o; simp only at d0 d1 hvs HC HN
      by_cases hbad : badO ⟨t, v⟩ = true
      . have HE := H_ (HB.out hbad)
        have hcs : t < 1 \/ (1 <= t /\ 255 < t) \/ (1 <= t /\ t <= 255 /\ 253 < v.size) := by
         simp [badO] at hbad
         omega
        clear hbad
        rcases hcs with h1 | ⟨h1, h2⟩ | ⟨h1, h2, h3⟩
        . go_wp2_with fail; go_ret2; exact ⟨by rw [HE.out.1, HE.out.2]; rfl, HK.out.1⟩
        . have h3 : ¬ t < 1 := by omega
          go_wp2_with fail; go_ret2; exact ⟨by rw [HE.out.1, HE.out.2]; rfl, HK.out.1⟩
        . have h4 : ¬ t < 1 := by omega
          have h5 : ¬ 255 < t := by omega
          have h6 : (253 : Int) < (v.size : Int) := by omega
          go_wp2_with fail; go_ret2; exact ⟨by rw [HE.out.1, HE.out.2]; rfl, HK.out.1⟩
      . have hcs : 1 <= t /\ t <= 255 /\ v.size <= 253 := by
         simp [badO] at hbad
         omega
        have HN2 := H_ (HN.out hcs); obtain ⟨h1, h2, h3⟩ := hcs; have h4 : ¬ t < 1 := by omega
        have h5 : ¬ 255 < t := by omega
        have h6 : ¬ (253 : Int) < (v.size : Int) := by omega
        clear hbad; go_wp2_with fail; obtain ⟨t, rfl⟩ := Int.eq_ofNat_of_zero_le (show (0 : Int) <= t by omega); simp only [Int.toNat_natCast, optB] at HP; refine wp_region_H (rgH 0 25) (fun Y : World => Y.cell? ⟨b, off + k * 2, none⟩ = some (.int .i64 (t : Int)) /\ Y.cell? ⟨b, off + k * 2 + 1, none⟩ = some (.string v)) (by kernel_rfl) ?_; have HSv := HC.out wr.drew HK.out.1.drew; refine hatH 0 rfl (by rintro W ⟨z0, z1⟩; go_simp; try rfl) HSv ?_; simp only [aZ, aC, aD]; refine hatH 1 rfl (by rintro W ⟨z0, z1⟩; go_simp; try rfl) HSv ?_; simp only [aZ, aC, aD]; refine hatH 2 rfl (by rintro W ⟨z0, z1⟩; go_simp; try rfl) HSv ?_; simp only [aZ, aC, aD]; refine hatH 3 rfl (by rintro W ⟨z0, z1⟩; go_simp; try rfl) HSv ?_; simp only [aZ, aC, aD]; refine hatH 4 rfl (by rintro W ⟨z0, z1⟩; go_simp; try rfl) HSv ?_; simp only [aZ, aC, aD]; refine hatH 5 rfl (by rintro W ⟨z0, z1⟩; go_simp; try rfl) HSv ?_; simp only [aZ, aC, aD]; refine hatH 6 rfl (by rintro W ⟨z0, z1⟩; go_simp; try rfl) HSv ?_; simp only [aZ, aC, aD]; refine hatH 7 rfl (by rintro W ⟨z0, z1⟩; go_simp; try rfl) HSv ?_; simp only [aZ, aC, aD]; refine hatH 8 rfl (by rintro W ⟨z0, z1⟩; go_simp; try rfl) HSv ?_; simp only [aZ, aC, aD]; refine hatH 9 rfl (by rintro W ⟨z0, z1⟩; go_simp; try rfl) HSv ?_; simp only [aZ, aC, aD]; refine hatH 10 rfl (by rintro W ⟨z0, z1⟩; go_simp; try rfl) HSv ?_; simp only [aZ, aC, aD]; refine hatH 11 rfl (by rintro W ⟨z0, z1⟩; go_simp; try rfl) HSv ?_; simp only [aZ, aC, aD]; refine hatH 12 rfl (by rintro W ⟨z0, z1⟩; go_simp; try rfl) HSv ?_; simp only [aZ, aC, aD]; refine hatH 13 rfl (by rintro W ⟨z0, z1⟩; go_simp; try rfl) HSv ?_; simp only [aZ, aC, aD]; refine hatH 14 rfl (by rintro W ⟨z0, z1⟩; go_simp; try rfl) HSv ?_; simp only [aZ, aC, aD]; refine hatH 18 rfl (by rintro W ⟨z0, z1⟩; go_simp; try rfl) HSv ?_; simp only [aZ, aC, aD]; refine hatH 19 rfl (by rintro W ⟨z0, z1⟩; go_simp; try rfl) HSv ?_; simp only [aZ, aC, aD]; refine hatH 20 rfl (by rintro W ⟨z0, z1⟩; go_simp; try rfl) HSv ?_; simp only [aZ, aC, aD]; refine hatH 21 rfl (by rintro W ⟨z0, z1⟩; go_simp; try rfl) HSv ?_; simp only [aZ, aC, aD]; refine hatH 22 rfl (by rintro W ⟨z0, z1⟩; go_simp; try rfl) HSv ?_; simp only [aZ, aC, aD]; refine hone 15 rfl fun K hK => ?_
        try go_simp
        have w1 : IntKind.u8.wrap (t : Int) = (t : Int) := by unfold IntKind.wrap; simp [IntKind.bits, IntKind.signed]; omega
        have w2 : IntKind.u8.wrap (IntKind.i64.wrap ((v.size : Int) + 2)) = (v.size : Int) + 2 := by
         have w3 : IntKind.i64.wrap ((v.size : Int) + 2) = (v.size : Int) + 2 := by unfold IntKind.wrap; simp [IntKind.bits, IntKind.signed]; omega
         rw [w3]; unfold IntKind.wrap; simp [IntKind.bits, IntKind.signed]; omega
        rw [w1, w2]; clear w1 w2
        have hcv : (convert 200 9 (.slice (some ⟨wr.heap.size, 0, none⟩) 2 2)).run Tryz.prog ((wr.alloc (.cells #[.int .u8 (t : Int), .int .u8 ((v.size : Int) + 2)] 5 (0, 0))).drew) = .ok (.string (ByteArray.mk #[UInt8.ofNat t, UInt8.ofNat (v.size + 2)])) ((wr.alloc (.cells #[.int .u8 (t : Int), .int .u8 ((v.size : Int) + 2)] 5 (0, 0))).drew) := by
         have hx := heap_alloc_new wr (.cells #[.int .u8 (t : Int), .int .u8 ((v.size : Int) + 2)] 5 (0, 0)); have hx2 : ((wr.alloc (.cells #[.int .u8 (t : Int), .int .u8 ((v.size : Int) + 2)] 5 (0, 0))).drew).heap[wr.heap.size]? = some (.cells #[.int .u8 (t : Int), .int .u8 ((v.size : Int) + 2)] 5 (0, 0)) := hx; refine run_convert_bytes_back (P := Tryz.prog) _ 200 9 5 ⟨wr.heap.size, 0, none⟩ 2 [UInt8.ofNat t, UInt8.ofNat (v.size + 2)] Tryz.underlying200 Tryz.underlying5 Tryz.underlying9 (fun j hj => ?_); rw [Addr.add_lit, Nat.zero_add]; have e1 : (UInt8.ofNat t).toNat = t := by rw [UInt8.toNat_ofNat']; omega
         have e2 : (UInt8.ofNat (v.size + 2)).toNat = v.size + 2 := by rw [UInt8.toNat_ofNat']; omega
         match j, hj with
         | 0, _ => simp only [List.getElem_cons_zero]; rw [e1]; exact cellOf hx2 0 _ rfl
         | 1, _ => simp only [List.getElem_cons_zero, List.getElem_cons_succ]; rw [e2]; exact cellOf hx2 1 _ rfl
        have hs2 : (ByteArray.mk #[UInt8.ofNat t, UInt8.ofNat (v.size + 2)]).size = 2 := rfl; generalize ByteArray.mk #[UInt8.ofNat t, UInt8.ofNat (v.size + 2)] = hd2 at hcv hs2 HP; have hs3 : (hd2 ++ v).size = 2 + v.size := by rw [ByteArray.size_append, hs2]
        have hs4 : (out ++ hd2).size = out.size + 2 := by rw [ByteArray.size_append, hs2]
        have hbw : Below w.heap.size w ((wr.alloc (.cells #[.int .u8 (t : Int), .int .u8 ((v.size : Int) + 2)] 5 (0, 0))).drew) := HK.out.1.trans ((Below.trans (b1 wr (.cells #[.int .u8 (t : Int), .int .u8 ((v.size : Int) + 2)] 5 (0, 0))) (Below.refl _ _).drew).mono HK.out.1.size); have HSv : ((wr.alloc (.cells #[.int .u8 (t : Int), .int .u8 ((v.size : Int) + 2)] 5 (0, 0))).drew).cell? ⟨b, off + k * 2, none⟩ = some (.int .i64 (t : Int)) /\ ((wr.alloc (.cells #[.int .u8 (t : Int), .int .u8 ((v.size : Int) + 2)] 5 (0, 0))).drew).cell? ⟨b, off + k * 2 + 1, none⟩ = some (.string v) := HC.out _ hbw; have HBW := H_ hbw; have hl1 : ¬ 9223372036854775807 < out.size + 2 := by omega
        have hl2 : ¬ 9223372036854775807 < out.size + 2 + v.size := by omega
        clear hbw; refine hK _ _ (fun _ => HSv) ?_
        try simp only [aZ, aA, aE, aB, aC, aD]
        generalize ((wr.alloc (.cells #[.int .u8 (t : Int), .int .u8 ((v.size : Int) + 2)] 5 (0, 0))).drew) = wF at *; refine hone 16 rfl fun K hK => ?_
        try go_simp
        refine hK _ _ (fun _ => HSv) ?_
        try simp only [aZ, aA, aE, aB, aC, aD]
        refine hatH 17 rfl (by rintro W ⟨z0, z1⟩; go_simp; try rfl) HSv ?_; simp only [aZ, aC, aD]; refine hatH 23 rfl (by rintro W ⟨z0, z1⟩; go_simp; try rfl) HSv ?_; simp only [aZ, aC, aD]; refine hatH 24 rfl (by rintro W ⟨z0, z1⟩; go_simp; try rfl) HSv ?_; simp only [aZ, aC, aD]; refine hend 25 ?_; simp only [aF, aG]; go_wp2_with fail
        go_roundg (len - (k + 1))
        case measure => omega
        case rel => exact ⟨k + 1, by omega, rfl, by go_num, by rw [HP.out, ByteArray.append_assoc], HBW.out, HN2.out⟩
    . obtain rfl : len = k := by omega
      have HQ := H_ (show l.take len = l from List.take_of_length_le (by have := HLN.out; omega))
      have hz : l.any badO = false := by
       rw [List.any_eq_false]; intro o ho; obtain ⟨j, hj, rfl⟩ := List.mem_iff_getElem.1 ho; have := HK.out.2 j hj (by have := HLN.out; omega); simp [badO]
       omega
      have HS := H_ (show putE l = 0 from by unfold putE; rw [if_neg (by have := HLN.out; omega), if_neg (by rw [hz]; decide)]); have HT := H_ (show putS l = putB l from by unfold putS; rw [HS.out]; rfl); rw [HQ.out]; clear hz; go_wp2_with fail; go_ret2; exact ⟨by rw [HS.out, HT.out]; rfl, HK.out.1⟩
set_option maxRecDepth 100000 in
theorem must9_any (xs : List Int) (v : Value) (x : Int) (w : World) (h : RowR w v xs.length (iV xs)) (hl : xs.length <= 1000000) :
 Calls Tryz.prog 173 #[v, .int .i64 x] w fun e w' => e = .returned (.bool (hasB xs x)) /\ w = w' := by
 have HH := H_ (rhas_any xs v x w h hl); obtain ⟨sa, c, rfl, -, -⟩ := h.form; generalize hasB xs x = y at *; clear h; go_enter Tryz.func173, Tryz.ntmps173; go_wp2_with fail; refine HH.out.mono ?_; rintro e w1 ⟨rfl, rfl⟩; go_wp2_with fail; go_ret; exact ⟨rfl, rfl⟩
def confB (c : Int) : Bool := decide (1 <= c) && decide (c <= 4)
set_option maxRecDepth 100000 in
theorem conf9_any (c : Int) (w : World) : Calls Tryz.prog 248 #[.int .i64 c] w fun e w' => e = .returned (.bool (confB c)) /\ w = w' := by
 by_cases h1 : 1 <= c
 . have HC := H_ (show confB c = decide (c <= 4) by unfold confB; simp [h1]); go_enter Tryz.func248, Tryz.ntmps248; go_wp2_with fail
   all_goals (
    go_ret
    exact ⟨by rw [HC.out]; first | rfl | simp_all, rfl⟩)
 . have HC := H_ (show confB c = false by unfold confB; simp [h1]); go_enter Tryz.func248, Tryz.ntmps248; go_wp2_with fail
   all_goals (
    go_ret
    exact ⟨by rw [HC.out]; first | rfl | simp_all, rfl⟩)
structure NegP8 where
 a0 : Value
 a1 : Value
 a2 : Value
 a3 : Value
 a4 : Value
 a5 : Value
 a6 : Value
 a7 : Value
 z0 : Value
 z1 : Value
 z2 : Value
 z3 : Value
 z4 : Value
 z5 : Value
 z6 : Value
 z7 : Value
 z8 : Value
 z9 : Value
def RA8 (w : World) (b : Nat) (P : NegP8) (s c cf tm : Int) : Prop := w.heap[b]? = some (.cells #[P.a0, P.a1, P.a2, P.a3, P.a4, P.a5, P.a6, P.a7, .int .i64 cf, .int .i64 tm, .int .i64 s, .int .i64 c, P.z0, P.z1, P.z2, P.z3, P.z4, P.z5, P.z6, P.z7, P.z8, P.z9] 108 (0, 0))
section
variable {w w' : World} {b : Nat} {P : NegP8} {s c cf tm : Int}
theorem RA8.c0 (h : RA8 w b P s c cf tm) : w.cell? ⟨b, 8, none⟩ = some (.int .i64 cf) := cell_of_block h 8
theorem RA8.c1 (h : RA8 w b P s c cf tm) : w.cell? ⟨b, 9, none⟩ = some (.int .i64 tm) := cell_of_block h 9
theorem RA8.c2 (h : RA8 w b P s c cf tm) : w.cell? ⟨b, 10, none⟩ = some (.int .i64 s) := cell_of_block h 10
theorem RA8.c3 (h : RA8 w b P s c cf tm) : w.cell? ⟨b, 11, none⟩ = some (.int .i64 c) := cell_of_block h 11
theorem RA8.fz (h : RA8 w b P s c cf tm) (o : Nat) : w.frozen? ⟨b, o, none⟩ = false := frozen_of_block h o
theorem RA8.lt (h : RA8 w b P s c cf tm) : b < w.heap.size := (Array.getElem?_eq_some_iff.1 h).1
theorem RA8.set2 (h : RA8 w b P s c cf tm) (s' : Int) : RA8 (w.setCell ⟨b, 10, none⟩ (.int .i64 s')) b P s' c cf tm := set_block h 10 _
theorem RA8.set3 (h : RA8 w b P s c cf tm) (c' : Int) : RA8 (w.setCell ⟨b, 11, none⟩ (.int .i64 c')) b P s c' cf tm := set_block h 11 _
theorem RA8.keep {S : Nat -> Prop} (h : RA8 w b P s c cf tm) (hk : Keep S w w') (hs : ¬ S b) : RA8 w' b P s c cf tm := (hk.block b h.lt hs).trans h
theorem RA8.below (h : RA8 w b P s c cf tm) (hk : Below w.heap.size w w') : RA8 w' b P s c cf tm := (hk.block b h.lt).trans h
end
structure RDo8 (w w' : World) (rb : Nat) (P : NegP8) (s c cf tm : Int) (v : Value) (xs : List Int) : Prop where
 at' : RA8 w' rb P s c cf tm
 row : RowR w' v xs.length (iV xs)
 kp : Keep (· = rb) w w'
 f : ∀ g, v.ownBlock = some g -> w.heap.size <= g
set_option maxRecDepth 100000 in
theorem rdo8_core (ns : Int) (xs : List Int) (b : Nat) (P : NegP8) (s c cf tm e : Int) (w : World) (h : RA8 w b P s c cf tm) (h1 : 1 <= cf) (h2 : cf <= 20) (h3 : 1 <= tm) (h4 : tm <= 20) (h5 : InB c)
 (HN : ∀ w, Hid (Calls Tryz.prog 8 #[.int .i64 s, .int .i64 e] w fun en w' => ∃ v, en = .returned (.tuple #[.int .i64 ns, v]) /\ Laid 3 1 w w' v xs.length (iV xs))) (hlen : xs.length <= 1000) :
 Calls Tryz.prog 18 #[.pointer (some ⟨b, 8, none⟩), .int .i64 e] w fun en w' => ∃ v, en = .returned v /\ RDo8 w w' b P ns (doC cf tm xs xs c) cf tm v xs := by
 have hc2 := h.c2; have hlt0 := h.lt; go_enter Tryz.func18, Tryz.ntmps18; go_wp2_with fail; refine (HN w).out.mono ?_; rintro en w1 ⟨v, rfl, hv⟩; have ha1 := h.below hv.b; have hf1 := ha1.fz 10; have hc1 := ha1.c2; obtain ⟨sa, ca, rfl, hca, hcm⟩ := hv.r.form; obtain ⟨len, hln⟩ : ∃ len, len = xs.length := ⟨_, rfl⟩; have HLN := H_ hln; have hvb : ∀ g, (Value.slice sa xs.length ca).ownBlock = some g -> ¬ g = b := fun g hg he => by have := hv.f g hg; omega
 rw [<- hln] at hv hvb hca hlen ⊢; have hr := hv.r.rd.keep ((Keep.refl (· = b) w1).setB 10 (.int .i64 ns)) hvb; have HV := H_ (A_ (ha1.set2 ns) (A_ hr (A_ ((Keep.of_below (· = b) hv.b).setB 10 (.int .i64 ns)) hvb))); have HF := H_ hv.f; clear HN hln hv hr hvb h hc2; go_wp2_with fail; generalize w1.setCell ⟨b, 10, none⟩ (.int .i64 ns) = w2 at *; clear hf1 hc1 ha1
 go_loopg [7] len (fun y i wr => ∃ k : Nat, k <= len /\ y = len - k /\ i = .int .i64 k /\ Hid (RA8 wr b P ns (doC cf tm xs (xs.take k) c) cf tm /\ RowR wr (.slice sa len ca) len (iV xs) /\ Keep (· = b) w wr))
 case atStart => exact ⟨0, by omega, by omega, rfl, HV.out.1, HV.out.2.1, HV.out.2.2.1⟩
 case round =>
  obtain ⟨k, hk, rfl, rfl, hK⟩ := hrel; obtain ⟨hat, hrow, hkp⟩ := hK.out; clear hK; have hbd := InB_out (doC_bd xs ⟨by omega, h2⟩ ⟨by omega, h4⟩ (xs.take k) c h5)
  by_cases hlt : k < len
  . have hlt' : k < xs.length := by have := HLN.out; omega
    obtain ⟨g, rfl, hg, hck⟩ := RowR_int hrow k hlt'; have hsn := H_ (doC_snoc cf tm c xs k hlt'); have HHAS := H_ (fun (W : World) (hW : RowR W (.slice (some ⟨g, 0, none⟩) len ca) len (iV xs)) => rhas_any xs (.slice (some ⟨g, 0, none⟩) len ca) 9 W (by rw [<- HLN.out]; exact hW) (by have := HLN.out; omega)); generalize hcc : doC cf tm xs (xs.take k) c = cc at *; generalize hxk : xs[k] = x at *; clear hcc hxk; have hc0 := hat.c0; have hc1 := hat.c1; have hc3 := hat.c3; have hf3 := hat.fz 11; have HAT := H_ hat; have HKP := H_ hkp; have HROW := H_ (A_ hrow HV.out.2.2.2); have HRS : Hid (∀ u, RowR (wr.setCell ⟨b, 11, none⟩ u) (.slice (some ⟨g, 0, none⟩) len ca) len (iV xs)) := H_ fun u => hrow.keep ((Keep.refl (· = b) wr).setB 11 u) HV.out.2.2.2; have HRS2 : Hid (∀ u u', RowR ((wr.setCell ⟨b, 11, none⟩ u).setCell ⟨b, 11, none⟩ u') (.slice (some ⟨g, 0, none⟩) len ca) len (iV xs)) := H_ fun u u' => hrow.keep (((Keep.refl (· = b) wr).setB 11 u).setB 11 u') HV.out.2.2.2; clear hat hkp hrow; have hend : ∀ c', doStep cf tm xs cc x = c' -> Hid (doC cf tm xs (xs.take (k + 1)) c = c') := fun c' h => by rw [hsn.out]; exact h
    by_cases x4 : x = 4
    . subst x4
      by_cases h9 : hasB xs 9 = true
      . have HE := hend tm (by simp only [doStep, h9]; simp); clear hend; rw [h9] at HHAS; clear h9
        go_wp2_with (go_at_call 143; refine (HHAS.out _ (HRS.out _)).mono ?_; rintro en w' ⟨rfl, rfl⟩)
        go_roundg (len - (k + 1))
        case measure => omega
        case rel => exact ⟨k + 1, by omega, rfl, by go_num, by rw [HE.out]; exact (HAT.out.set3 _).set3 _, HRS2.out _ _, (HKP.out.setB _ _).setB _ _⟩
      . have h9' : hasB xs 9 = false := by simpa using h9
        have HE := hend cf (by simp only [doStep, h9']; simp); clear hend h9; rw [h9'] at HHAS; clear h9'
        go_wp2_with (go_at_call 143; refine (HHAS.out _ (HRS.out _)).mono ?_; rintro en w' ⟨rfl, rfl⟩)
        go_roundg (len - (k + 1))
        case measure => omega
        case rel => exact ⟨k + 1, by omega, rfl, by go_num, by rw [HE.out]; exact HAT.out.set3 _, HRS.out _, HKP.out.setB _ _⟩
    . by_cases x5 : x = 5
      . subst x5; have HE := hend 0 (by simp [doStep]); clear hend; go_wp2_with fail
        go_roundg (len - (k + 1))
        case measure => omega
        case rel => exact ⟨k + 1, by omega, rfl, by go_num, by rw [HE.out]; exact HAT.out.set3 _, HRS.out _, HKP.out.setB _ _⟩
      . by_cases x69 : x = 6 \/ x = 9
        . by_cases hcp : 0 < cc
          . have HE := hend (cc - 1) (by unfold doStep; rw [if_neg x4, if_neg x5, if_pos x69, if_neg (by omega)]); clear hend
            rcases x69 with rfl | rfl
            all_goals
             go_wp2_with fail
             go_roundg (len - (k + 1))
             case measure => omega
             case rel => exact ⟨k + 1, by omega, rfl, by go_num, by rw [HE.out]; exact HAT.out.set3 _, HRS.out _, HKP.out.setB _ _⟩
          . have hc00 : cc = 0 := by omega
            have HE := hend cc (by unfold doStep; rw [if_neg x4, if_neg x5, if_pos x69, if_pos (by omega), hc00]); clear hend; subst hc00
            rcases x69 with rfl | rfl
            all_goals
             go_wp2_with fail
             go_roundg (len - (k + 1))
             case measure => omega
             case rel => exact ⟨k + 1, by omega, rfl, by go_num, by rw [HE.out]; exact HAT.out, HROW.out.1, HKP.out⟩
        . have HE := hend cc (by unfold doStep; rw [if_neg x4, if_neg x5, if_neg x69]); have e4 : (x == 4) = false := by simpa using x4
          have e5 : (x == 5) = false := by simpa using x5
          have e6 : (x == 6) = false := by simp; exact fun h => x69 (.inl h)
          have e9 : (x == 9) = false := by simp; exact fun h => x69 (.inr h)
          clear hend x4 x5 x69; go_wp2_with fail
          go_roundg (len - (k + 1))
          case measure => omega
          case rel => exact ⟨k + 1, by omega, rfl, by go_num, by rw [HE.out]; exact HAT.out, HROW.out.1, HKP.out⟩
  . have HAT := H_ (A_ hat (A_ hrow hkp)); clear hat hrow hkp; go_wp2_with fail; go_ret; obtain rfl : len = k := by omega
    have := HAT.out.1; rw [HLN.out, List.take_length] at this; refine ⟨_, rfl, this, ?_, HAT.out.2.2, HF.out⟩; have h9 := HAT.out.2.1; rw [HLN.out] at h9 ⊢; exact h9
theorem rdo8_any (b : Nat) (P : NegP8) (s c cf tm e : Int) (w : World) (h : RA8 w b P s c cf tm) (h1 : 1 <= cf) (h2 : cf <= 20) (h3 : 1 <= tm) (h4 : tm <= 20) (h5 : InB c) :
 Calls Tryz.prog 18 #[.pointer (some ⟨b, 8, none⟩), .int .i64 e] w fun en w' => ∃ v, en = .returned v /\ RDo8 w w' b P (nextS s e) (doC cf tm (nextL s e) (nextL s e) c) cf tm v (nextL s e) :=
 rdo8_core (nextS s e) (nextL s e) b P s c cf tm e w h h1 h2 h3 h4 h5 (fun w => H_ (rnext_any s e w)) (Nat.le_trans (nextL_le s e) (by omega))
theorem rwaits8_any (b : Nat) (P : NegP8) (s c cf tm : Int) (w : World) (h : RA8 w b P s c cf tm) :
 Calls Tryz.prog 22 #[.pointer (some ⟨b, 8, none⟩)] w fun e w' => e = .returned (.bool (waitsB s)) /\ w = w' := by
 have hc := h.c2
 by_cases h1 : 4 <= s
 . by_cases h2 : s <= 8
   . go_enter Tryz.func22, Tryz.ntmps22; go_wp2_with fail; go_ret; exact ⟨by simp [waitsB, h1, h2], rfl⟩
   . go_enter Tryz.func22, Tryz.ntmps22; go_wp2_with fail; go_ret; exact ⟨by simp [waitsB]; omega, rfl⟩
 . go_enter Tryz.func22, Tryz.ntmps22; go_wp2_with fail; go_ret; exact ⟨by simp [waitsB]; omega, rfl⟩
theorem rtimeout8_any (b : Nat) (P : NegP8) (s c cf tm : Int) (w : World) (h : RA8 w b P s c cf tm) (h1 : 1 <= cf) (h2 : cf <= 20) (h3 : 1 <= tm) (h4 : tm <= 20) (h5 : InB c) :
 Calls Tryz.prog 16 #[.pointer (some ⟨b, 8, none⟩)] w fun en w' => ∃ v, en = .returned v /\ RDo8 w w' b P (tmoS s c) (doC cf tm (tmoL s c) (tmoL s c) c) cf tm v (tmoL s c) := by
 have hc3 := h.c3; have HD4 := H_ (rdo8_any b P s c cf tm 4 w h h1 h2 h3 h4 h5); have HD5 := H_ (rdo8_any b P s c cf tm 5 w h h1 h2 h3 h4 h5)
 cases hw : waitsB s with
 | false =>
  have e1 : tmoL s c = [] := by simp [tmoL, tmoE, hw]
  have e2 : tmoS s c = s := by simp [tmoS, tmoE, hw]
  rw [e1, e2]; go_enter Tryz.func16, Tryz.ntmps16; go_wp2_with fail; refine (rwaits8_any _ _ _ _ _ _ _ h).mono ?_; rintro en w0 ⟨rfl, rfl⟩; go_wp2_with fail; go_ret; exact ⟨_, rfl, h, (BRow.nil 3 1 w).rd, Keep.refl _ _, fun g h => by cases h⟩
 | true =>
  by_cases hc : 0 < c
  . have e1 : tmoL s c = nextL s 4 := by simp [tmoL, tmoE, hw, hc]
    have e2 : tmoS s c = nextS s 4 := by simp [tmoS, tmoE, hw, hc]
    rw [e1, e2]; go_enter Tryz.func16, Tryz.ntmps16; go_wp2_with fail; refine (rwaits8_any _ _ _ _ _ _ _ h).mono ?_; rintro en w0 ⟨rfl, rfl⟩; go_wp2_with fail; refine HD4.out.mono ?_; rintro en w0 ⟨v, rfl, h6⟩; have H6 := H_ h6; clear h6; go_wp2_with fail; go_ret; exact ⟨_, rfl, H6.out⟩
  . have e1 : tmoL s c = nextL s 5 := by simp [tmoL, tmoE, hw, hc]
    have e2 : tmoS s c = nextS s 5 := by simp [tmoS, tmoE, hw, hc]
    rw [e1, e2]; go_enter Tryz.func16, Tryz.ntmps16; go_wp2_with fail; refine (rwaits8_any _ _ _ _ _ _ _ h).mono ?_; rintro en w0 ⟨rfl, rfl⟩; go_wp2_with fail; refine HD5.out.mono ?_; rintro en w0 ⟨v, rfl, h6⟩; have H6 := H_ h6; clear h6; go_wp2_with fail; go_ret; exact ⟨_, rfl, H6.out⟩
set_option maxRecDepth 100000 in
theorem next8_any (b : Nat) (P : NegP8) (s c cf tm id : Int) (w : World) (h : RA8 w b P s c cf tm) (hid : P.z1 = .int .i64 id) (h0 : 0 <= id) (h1 : id <= 255) :
 Calls Tryz.prog 228 #[.pointer (some ⟨b, 0, none⟩)] w fun e w' => e = .returned (.int .i64 ((id + 1) % 256)) /\ RA8 w' b { P with z1 := .int .i64 ((id + 1) % 256) } s c cf tm /\ Keep (· = b) w w' := by
 have c13 : w.cell? ⟨b, 13, none⟩ = some (.int .i64 id) := by rw [<- hid]; exact cell_of_block h 13
 have f13 := h.fz 13; have HS := H_ (show RA8 (w.setCell ⟨b, 13, none⟩ (.int .i64 ((id + 1) % 256))) b { P with z1 := .int .i64 ((id + 1) % 256) } s c cf tm from set_block h 13 _); have HK := H_ ((Keep.refl (· = b) w).setCell ⟨b, 13, none⟩ (Or.inr rfl) (.int .i64 ((id + 1) % 256))); clear h hid; go_enter Tryz.func228, Tryz.ntmps228; go_wp2_with fail; go_ret; exact ⟨rfl, HS.out, HK.out⟩
set_option maxRecDepth 100000 in
theorem mine8_any (b : Nat) (P : NegP8) (s c cf tm : Int) (w : World) (h : RA8 w b P s c cf tm) (a : Option Addr) (n k : Nat) (hv : P.z5 = .slice a n k) :
 Calls Tryz.prog 57 #[.pointer (some ⟨b, 0, none⟩)] w fun e w' => e = .returned (if s = 9 then .slice a n k else .slice none 0 0) /\ w = w' := by
 have c2 := h.c2; have cz : w.cell? ⟨b, 17, none⟩ = some (.slice a n k) := by rw [<- hv]; exact cell_of_block h 17
 clear h hv
 by_cases h9 : s = 9
 . subst h9; go_enter Tryz.func57, Tryz.ntmps57; go_wp2_with fail; go_ret; exact ⟨rfl, rfl⟩
 . have hq : (s == 9) = false := by simpa using h9
   have hq2 : (s != 9) = true := by simpa using h9
   rw [if_neg h9]; clear h9; go_enter Tryz.func57, Tryz.ntmps57; go_wp2_with fail; go_ret; exact ⟨rfl, rfl⟩
set_option maxRecDepth 100000 in
theorem theirs8_any (b : Nat) (P : NegP8) (s c cf tm : Int) (w : World) (h : RA8 w b P s c cf tm) (a : Option Addr) (n k : Nat) (hv : P.z6 = .slice a n k) :
 Calls Tryz.prog 58 #[.pointer (some ⟨b, 0, none⟩)] w fun e w' => e = .returned (if s = 9 then .slice a n k else .slice none 0 0) /\ w = w' := by
 have c2 := h.c2; have cz : w.cell? ⟨b, 18, none⟩ = some (.slice a n k) := by rw [<- hv]; exact cell_of_block h 18
 clear h hv
 by_cases h9 : s = 9
 . subst h9; go_enter Tryz.func58, Tryz.ntmps58; go_wp2_with fail; go_ret; exact ⟨rfl, rfl⟩
 . have hq : (s == 9) = false := by simpa using h9
   have hq2 : (s != 9) = true := by simpa using h9
   rw [if_neg h9]; clear h9; go_enter Tryz.func58, Tryz.ntmps58; go_wp2_with fail; go_ret; exact ⟨rfl, rfl⟩
set_option maxRecDepth 100000 in
theorem sameP9_any (xs ys : List Opt) (a b : Value) (ok ok2 : Nat -> Prop) (w : World) (ha : Opts w ok a xs) (hb : Opts w ok2 b ys) (hl : xs.length <= 1000000) (hl' : ys.length <= 1000000) :
 Calls Tryz.prog 171 #[a, b] w fun e w' => (∃ y : Bool, e = .returned (.bool y) /\ (y = true ↔ xs = ys)) /\ Below w.heap.size w w' := by
 obtain ⟨sa, c, rfl, hc, hm⟩ := ha.form; obtain ⟨sb, d, rfl, hd, hn⟩ := hb.form
 by_cases hxy : xs.length = ys.length
 case neg =>
  have H : Hid (∀ y : Bool, y = false -> (y = true ↔ xs = ys)) := H_ (fun y h => ⟨fun h1 => absurd (h1.symm.trans h) (by decide), fun h1 => absurd (by rw [h1]) hxy⟩); clear ha hb; generalize xs.length = n1 at *; generalize ys.length = n2 at *; go_enter Tryz.func171, Tryz.ntmps171; go_wp2_with fail; go_ret; exact ⟨⟨_, rfl, H.out _ rfl⟩, Below.refl _ _⟩
 case pos =>
 have H := H_ (A_ ha hb); clear ha hb; rw [<- hxy] at hd hl' ⊢; obtain ⟨len, hln⟩ : ∃ len, len = xs.length := ⟨_, rfl⟩; have HLN := H_ (A_ hln hxy); rw [<- hln] at hc hd hl ⊢; clear hln hxy hl'; go_enter Tryz.func171, Tryz.ntmps171; go_wp2_with fail
 go_loopg [5] len (fun x i wr => ∃ k : Nat, k <= len /\ x = len - k /\ i = .int .i64 k /\ Hid (Below w.heap.size w wr /\ ∀ j (h1 : j < xs.length) (h2 : j < ys.length), j < k -> xs[j] = ys[j]))
 case atStart => exact ⟨0, by omega, by omega, rfl, Below.refl _ _, fun j _ _ h => absurd h (Nat.not_lt_zero _)⟩
 case round =>
  obtain ⟨k, hk, rfl, rfl, hK⟩ := hrel; have HK := H_ hK.out; clear hK
  by_cases hkl : k < len
  . have h1 : k < xs.length := by have := HLN.out.1; omega
    have h2 : k < ys.length := by have := HLN.out.2; omega
    obtain ⟨g, off, rfl, hg, -, -, -, -, c0, c1⟩ := H.out.1.at k h1; obtain ⟨g', off', rfl, hg', -, -, -, -, c2, c3⟩ := H.out.2.at k h2; have d0 : wr.cell? ⟨g, off + k * 2, none⟩ = _ := (HK.out.1.cell (p := ⟨g, off + k * 2, none⟩) hg).trans c0; have d1 : wr.cell? ⟨g, off + k * 2 + 1, none⟩ = _ := (HK.out.1.cell (p := ⟨g, off + k * 2 + 1, none⟩) hg).trans c1; have d2 : wr.cell? ⟨g', off' + k * 2, none⟩ = _ := (HK.out.1.cell (p := ⟨g', off' + k * 2, none⟩) hg').trans c2; have d3 : wr.cell? ⟨g', off' + k * 2 + 1, none⟩ = _ := (HK.out.1.cell (p := ⟨g', off' + k * 2 + 1, none⟩) hg').trans c3
    have HEQ : Hid (∀ y : Bool, (y = true ↔ (xs[k].t = ys[k].t /\ xs[k].v = ys[k].v)) -> (y = true -> xs[k] = ys[k]) /\ (y = false -> ∀ y' : Bool, y' = false -> (y' = true ↔ xs = ys))) := H_ (by
     intro y hy; refine ⟨fun h => ?_, fun h y' hy' => ⟨fun h3 => absurd (h3.symm.trans hy') (by decide), fun h3 => ?_⟩⟩
     . obtain ⟨e1, e2⟩ := hy.1 h; generalize xs[k] = x at *; generalize ys[k] = z at *; obtain ⟨x1, x2⟩ := x; obtain ⟨z1, z2⟩ := z; simp only at e1 e2
       rw [e1, e2]
     . subst h3
       exact absurd ((hy.2 ⟨rfl, rfl⟩).symm.trans h) (by decide))
    clear c0 c1 c2 c3; generalize hx0 : xs[k].t = t at d0 HEQ; generalize hx1 : xs[k].v = v at d1 HEQ; generalize hx2 : ys[k].t = t' at d2 HEQ; generalize hx3 : ys[k].v = v' at d3 HEQ; obtain ⟨y, hy⟩ : ∃ y : Bool, y = (decide (t = t') && decide (v = v')) := ⟨_, rfl⟩; have HE := H_ (HEQ.out y (by rw [hy]; simp)); have hn : ∀ w, (binOp .neq 91 (.agg #[.int .i64 t, .string v]) (.agg #[.int .i64 t', .string v'])).run Tryz.prog w = .ok (.bool (!y)) w := fun w => by rw [neqO, hy]
    clear hy hx0 hx1 hx2 hx3 HEQ
    cases y with
    | true =>
     go_wp2_with fail
     go_quiet (fail)
     go_wp2_with fail
     go_roundg (len - (k + 1))
     case measure => omega
     case rel =>
      refine ⟨k + 1, by omega, rfl, by go_num, ⟨HK.out.1.os, HK.out.1.tape, HK.out.1.output, HK.out.1.size, HK.out.1.block⟩, fun j h3 h4 h5 => ?_⟩
      rcases Nat.lt_or_ge j k with h | h
      . exact HK.out.2 j h3 h4 h
      . obtain rfl : j = k := by omega
        exact HE.out.1 (by first | exact trivial | rfl)
    | false =>
     go_wp2_with fail
     go_quiet (fail)
     go_wp2_with fail; go_ret; exact ⟨⟨_, rfl, HE.out.2 (by first | exact trivial | rfl) _ rfl⟩, ⟨HK.out.1.os, HK.out.1.tape, HK.out.1.output, HK.out.1.size, HK.out.1.block⟩⟩
  . go_wp2_with fail; go_ret; refine ⟨⟨_, rfl, fun _ => ?_, fun _ => rfl⟩, HK.out.1⟩; have e1 := HLN.out.1; have e2 := HLN.out.2; exact List.ext_getElem e2 fun j h3 h4 => HK.out.2 j h3 h4 (by omega)
def mkP (i j : Nat) : List Value := [.int .i64 (-1 - (i : Int)), .int .i64 (j : Int), .slice none 0 0, .string ⟨#[]⟩]
theorem mkP_len (i j : Nat) : (mkP i j).length = 4 := rfl
theorem mkP_one (i j : Nat) : ∀ u ∈ mkP i j, u.oneCell' = true := by
 intro u hu; simp only [mkP, List.mem_cons, List.not_mem_nil, or_false] at hu
 rcases hu with rfl | rfl | rfl | rfl <;> rfl
theorem pk_row : RowT Tryz.prog 96 93 4 56 where
 ht := Tryz.underlying96
 hi := pk_info
 hk := by decide
 hb := by decide
theorem pks_row : RowT Tryz.prog 28 96 1 24 where
 ht := Tryz.underlying28
 hi := by
  have h : (Tryz.prog.info? 96).map (fun i => (i.zero, i.size, i.bytes)) = some (some (.slice none 0 0), 1, 24) := by kernel_rfl
  obtain ⟨i, hi, he⟩ := Option.map_eq_some_iff.1 h; simp only [Prod.mk.injEq] at he; exact ⟨i, _, hi, he.1, he.2.1, he.2.2, rfl⟩
 hk := by decide
 hb := by decide
set_option maxRecDepth 100000 in
theorem markP_any (i f n : Nat) (hi : i <= 250) (hf : f <= 200000) (hn : n <= 200000) (w : World) :
 Calls Tryz.prog 199 #[.int .i64 i, .int .i64 f, .int .i64 n] w fun e w' => ∃ v, e = .returned v /\ Laid 93 4 w w' v n (marksC mkP i f n) := by
 go_enter Tryz.func199, Tryz.ntmps199; go_wp2_with fail
 go_loopg [7, 8] n (fun x out kk wr => ∃ j : Nat, j <= n /\ x = n - j /\ kk = .int .i64 ((f + j : Nat) : Int) /\ Hid (Laid 93 4 w wr out j (marksC mkP i f j)))
 case atStart => exact ⟨0, by omega, by omega, rfl, BRow.nil _ _ _, Below.refl _ _, fun g h => by cases h⟩
 case round =>
  obtain ⟨j, hj, rfl, rfl, hK⟩ := hrel; have HK := H_ hK.out; clear hK; obtain ⟨so, co, eo, -, -⟩ := HK.out.r.form; subst eo
  by_cases hjn : j < n
  . have hv : wrap64 (-1 - (i : Int)) = -1 - (i : Int) := by
     unfold wrap64; omega
    go_wp2_with (
     at_builtin; refine wpl_append_rec pk_row rfl _ _ rfl _ j (marksC mkP i f j) rfl (HK.out.r.below (b1 _ _)) _ _ (mkP i (f + j)) rfl (cell_of_at _ _ _ rfl) rfl (mkP_one _ _) (by omega) ?_
     intro g cap w6 h6 k6 o6; have H6 := H_ (A_ h6 (A_ k6 o6))
     clear h6 k6 o6)
    go_roundg (n - (j + 1))
    case measure => omega
    case rel =>
     refine ⟨j + 1, by omega, rfl, by go_num, ?_⟩; rw [marksC_snoc]; exact HK.out.app (b1 _ _) H6.out.1 H6.out.2.1 (H6.out.2.2.imp (fun h => h.symm) (fun h => by rw [h]; rfl))
  . obtain rfl : n = j := by omega
    go_wp2_with fail; go_ret; exact ⟨_, rfl, HK.out⟩
structure PkR (w : World) (ok : Nat -> Prop) (a : Value) (L : List (Pk × Value)) : Prop where
 r : Rec 4 w ok a (pkL L)
 o : ∀ p ∈ L, Opts w ok p.2 p.1.o
 m : ∀ p ∈ L, p.1.o.length <= 100000
theorem PkR.keep {w w' : World} {ok T : Nat -> Prop} {a : Value} {L : List (Pk × Value)} (h : PkR w ok a L) (hk : Keep T w w') (hT : ∀ b, b < w.heap.size -> ok b -> ¬ T b) : PkR w' ok a L :=
 ⟨Rec.keep h.r hk hT, fun p hp => Rec.keep (h.o p hp) hk hT, h.m⟩
theorem PkR.below {w w' : World} {ok : Nat -> Prop} {a : Value} {L : List (Pk × Value)} (h : PkR w ok a L) (hb : Below w.heap.size w w') : PkR w' ok a L := h.keep (Keep.of_below (fun _ => False) hb) (fun _ _ _ h => h)
theorem PkR.form {w : World} {ok : Nat -> Prop} {a : Value} {L : List (Pk × Value)} (h : PkR w ok a L) : ∃ sa c, a = .slice sa L.length c /\ L.length <= c /\ c <= maxLen := by
 have := Rec.form h.r
 rwa [pkL_len] at this
theorem PkR.at {w : World} {ok : Nat -> Prop} {sa : Option Addr} {n c : Nat} {L : List (Pk × Value)} (h : PkR w ok (.slice sa n c) L) (i : Nat) (hi : i < L.length) : ∃ b off, sa = some ⟨b, off, none⟩ /\ b < w.heap.size /\ ok b /\
 w.cell? ⟨b, off + i * 4, none⟩ = some (.int .i64 L[i].1.code) /\ w.cell? ⟨b, off + i * 4 + 1, none⟩ = some (.int .i64 L[i].1.id) /\ w.cell? ⟨b, off + i * 4 + 2, none⟩ = some L[i].2 /\ w.cell? ⟨b, off + i * 4 + 3, none⟩ = some (.string L[i].1.d) := by
 obtain ⟨b, off, h1, h2, h3, -, -, -, h4⟩ := Rec.at h.r i (by rw [pkL_len]; exact hi); have e : (pkL L)[i]'(by rw [pkL_len]; exact hi) = pkCells L[i] := by simp [pkL]
 rw [e] at h4; exact ⟨b, off, h1, h2, h3, h4 0 _ rfl, h4 1 _ rfl, h4 2 _ rfl, h4 3 _ rfl⟩
set_option maxRecDepth 100000 in
theorem sameK_true (A B : List (Pk × Value)) (a b : Value) (ok ok2 : Nat -> Prop) (w : World) (ha : PkR w ok a A) (hb : PkR w ok2 b B) (he : A.map Prod.fst = B.map Prod.fst) (hl : A.length <= 1000000) :
 Calls Tryz.prog 55 #[a, b] w fun e w' => e = .returned (.bool true) /\ Below w.heap.size w w' := by
 obtain ⟨sa, c, rfl, hc, hm⟩ := ha.form; obtain ⟨sb, d, rfl, hd, hn⟩ := hb.form; have hxy : A.length = B.length := by have := congrArg List.length he; simpa using this
 have H := H_ (A_ ha (A_ hb he)); clear ha hb he; rw [<- hxy] at hd ⊢; obtain ⟨len, hln⟩ : ∃ len, len = A.length := ⟨_, rfl⟩; have HLN := H_ (A_ hln hxy); rw [<- hln] at hc hd hl ⊢; clear hln hxy; go_enter Tryz.func55, Tryz.ntmps55; go_wp2_with fail
 go_loopg [5] len (fun x i wr => ∃ k : Nat, k <= len /\ x = len - k /\ i = .int .i64 k /\ Hid (Below w.heap.size w wr))
 case atStart => exact ⟨0, by omega, by omega, rfl, Below.refl _ _⟩
 case round =>
  obtain ⟨k, hk, rfl, rfl, hK⟩ := hrel; have HK := H_ hK.out; clear hK
  by_cases hkl : k < len
  . have h1 : k < A.length := by have := HLN.out.1; omega
    have h2 : k < B.length := by have := HLN.out.2; omega
    obtain ⟨g, off, rfl, hg, -, c0, c1, c2, c3⟩ := H.out.1.at k h1; obtain ⟨g', off', rfl, hg', -, c0', c1', c2', c3'⟩ := H.out.2.1.at k h2
    have hab : A[k].1 = B[k].1 := by
     have h3 : (A.map Prod.fst)[k]? = (B.map Prod.fst)[k]? := by rw [H.out.2.2]
     simpa [h1, h2] using h3
    rw [<- hab] at c0' c1' c3'; have ho := H.out.1.o _ (List.getElem_mem h1); have ho' := H.out.2.1.o _ (List.getElem_mem h2); have hm' := H.out.1.m _ (List.getElem_mem h1); rw [<- hab] at ho'
    have HC : Hid (∀ W, Below wr.heap.size wr W -> W.cell? ⟨g, off + k * 4, none⟩ = some (.int .i64 A[k].1.code) /\ W.cell? ⟨g, off + k * 4 + 1, none⟩ = some (.int .i64 A[k].1.id) /\ W.cell? ⟨g, off + k * 4 + 2, none⟩ = some A[k].2 /\ W.cell? ⟨g, off + k * 4 + 3, none⟩ = some (.string A[k].1.d) /\
     W.cell? ⟨g', off' + k * 4, none⟩ = some (.int .i64 A[k].1.code) /\ W.cell? ⟨g', off' + k * 4 + 1, none⟩ = some (.int .i64 A[k].1.id) /\ W.cell? ⟨g', off' + k * 4 + 2, none⟩ = some B[k].2 /\ W.cell? ⟨g', off' + k * 4 + 3, none⟩ = some (.string A[k].1.d)) := H_ fun W hW0 =>
     have hW := HK.out.trans (hW0.mono HK.out.size)
     ⟨(
      hW.cell (p := ⟨g, off + k * 4, none⟩) hg).trans c0, (hW.cell (p := ⟨g, off + k * 4 + 1, none⟩) hg).trans c1, (hW.cell (p := ⟨g, off + k * 4 + 2, none⟩) hg).trans c2, (hW.cell (p := ⟨g, off + k * 4 + 3, none⟩) hg).trans c3,
      (hW.cell (p := ⟨g', off' + k * 4, none⟩) hg').trans c0', (hW.cell (p := ⟨g', off' + k * 4 + 1, none⟩) hg').trans c1', (hW.cell (p := ⟨g', off' + k * 4 + 2, none⟩) hg').trans c2', (hW.cell (p := ⟨g', off' + k * 4 + 3, none⟩) hg').trans c3'⟩
    have HO := H_ (fun (W : World) (hW0 : Below wr.heap.size wr W) =>
     have hW := HK.out.trans (hW0.mono HK.out.size)
     sameP9_any A[k].1.o A[k].1.o A[k].2 B[k].2 ok ok2 W (ho.below hW) (ho'.below hW) (by omega) (by omega))
    obtain ⟨s1, q1, e1, -, -⟩ := ho.form; obtain ⟨s2, q2, e2, -, -⟩ := ho'.form; clear c0 c1 c2 c3 c0' c1' c2' c3' ho ho' hab; generalize A[k].2 = va at *; generalize B[k].2 = vb at *; generalize A[k].1.code = ac at *; generalize A[k].1.id = ai at *; generalize A[k].1.d = ad at *; subst e1 e2; generalize A[k].1.o.length = ol at *; go_wp2_with fail
    refine wp_region_H (rgH 0 51) (fun W : World => W.cell? ⟨g, off + k * 4, none⟩ = some (.int .i64 ac) /\ W.cell? ⟨g, off + k * 4 + 1, none⟩ = some (.int .i64 ai) /\ W.cell? ⟨g, off + k * 4 + 2, none⟩ = some (.slice s1 ol q1) /\ W.cell? ⟨g, off + k * 4 + 3, none⟩ = some (.string ad) /\
     W.cell? ⟨g', off' + k * 4, none⟩ = some (.int .i64 ac) /\ W.cell? ⟨g', off' + k * 4 + 1, none⟩ = some (.int .i64 ai) /\ W.cell? ⟨g', off' + k * 4 + 2, none⟩ = some (.slice s2 ol q2) /\ W.cell? ⟨g', off' + k * 4 + 3, none⟩ = some (.string ad)) (by kernel_rfl) ?_
    have HSv := HC.out wr.drew (Below.refl _ _).drew; refine hatH 0 rfl (by rintro W ⟨h0, h1, h2, h3, h4, h5, h6, h7⟩; go_simp; try rfl) HSv ?_; simp only [aZ, aC, aD]; refine hatH 1 rfl (by rintro W ⟨h0, h1, h2, h3, h4, h5, h6, h7⟩; go_simp; try rfl) HSv ?_; simp only [aZ, aC, aD]; refine hatH 2 rfl (by rintro W ⟨h0, h1, h2, h3, h4, h5, h6, h7⟩; go_simp; try rfl) HSv ?_; simp only [aZ, aC, aD]; refine hatH 3 rfl (by rintro W ⟨h0, h1, h2, h3, h4, h5, h6, h7⟩; go_simp; try rfl) HSv ?_; simp only [aZ, aC, aD]; refine hatH 4 rfl (by rintro W ⟨h0, h1, h2, h3, h4, h5, h6, h7⟩; go_simp; try rfl) HSv ?_; simp only [aZ, aC, aD]; refine hatH 5 rfl (by rintro W ⟨h0, h1, h2, h3, h4, h5, h6, h7⟩; go_simp; try rfl) HSv ?_; simp only [aZ, aC, aD]; refine hatH 6 rfl (by rintro W ⟨h0, h1, h2, h3, h4, h5, h6, h7⟩; go_simp; try rfl) HSv ?_; simp only [aZ, aC, aD]; refine hatH 7 rfl (by rintro W ⟨h0, h1, h2, h3, h4, h5, h6, h7⟩; go_simp; try rfl) HSv ?_; simp only [aZ, aC, aD]; refine hatH 8 rfl (by rintro W ⟨h0, h1, h2, h3, h4, h5, h6, h7⟩; go_simp; try rfl) HSv ?_; simp only [aZ, aC, aD]; refine hatH 9 rfl (by rintro W ⟨h0, h1, h2, h3, h4, h5, h6, h7⟩; go_simp; try rfl) HSv ?_; simp only [aZ, aC, aD]; refine hatH 10 rfl (by rintro W ⟨h0, h1, h2, h3, h4, h5, h6, h7⟩; go_simp; try rfl) HSv ?_; simp only [aZ, aC, aD]; refine hatH 11 rfl (by rintro W ⟨h0, h1, h2, h3, h4, h5, h6, h7⟩; go_simp; try rfl) HSv ?_; simp only [aZ, aC, aD]; refine hatH 12 rfl (by rintro W ⟨h0, h1, h2, h3, h4, h5, h6, h7⟩; go_simp; try rfl) HSv ?_; simp only [aZ, aC, aD]; refine hatH 13 rfl (by rintro W ⟨h0, h1, h2, h3, h4, h5, h6, h7⟩; go_simp; try rfl) HSv ?_; simp only [aZ, aC, aD]; refine hatH 14 rfl (by rintro W ⟨h0, h1, h2, h3, h4, h5, h6, h7⟩; go_simp; try rfl) HSv ?_; simp only [aZ, aC, aD]; refine hatH 15 rfl (by rintro W ⟨h0, h1, h2, h3, h4, h5, h6, h7⟩; go_simp; try rfl) HSv ?_; simp only [aZ, aC, aD]; refine hatH 16 rfl (by rintro W ⟨h0, h1, h2, h3, h4, h5, h6, h7⟩; go_simp; try rfl) HSv ?_; simp only [aZ, aC, aD]; refine hatH 17 rfl (by rintro W ⟨h0, h1, h2, h3, h4, h5, h6, h7⟩; go_simp; try rfl) HSv ?_; simp only [aZ, aC, aD]; refine hatH 18 rfl (by rintro W ⟨h0, h1, h2, h3, h4, h5, h6, h7⟩; go_simp; try rfl) HSv ?_; simp only [aZ, aC, aD]; refine hatH 19 rfl (by rintro W ⟨h0, h1, h2, h3, h4, h5, h6, h7⟩; go_simp; try rfl) HSv ?_; simp only [aZ, aC, aD]; refine hatH 20 rfl (by rintro W ⟨h0, h1, h2, h3, h4, h5, h6, h7⟩; go_simp; try rfl) HSv ?_; simp only [aZ, aC, aD]; refine hatH 21 rfl (by rintro W ⟨h0, h1, h2, h3, h4, h5, h6, h7⟩; go_simp; try rfl) HSv ?_; simp only [aZ, aC, aD]; refine hatH 22 rfl (by rintro W ⟨h0, h1, h2, h3, h4, h5, h6, h7⟩; go_simp; try rfl) HSv ?_; simp only [aZ, aC, aD]; refine hatH 23 rfl (by rintro W ⟨h0, h1, h2, h3, h4, h5, h6, h7⟩; go_simp; try rfl) HSv ?_; simp only [aZ, aC, aD]; refine hatH 24 rfl (by rintro W ⟨h0, h1, h2, h3, h4, h5, h6, h7⟩; go_simp; try rfl) HSv ?_; simp only [aZ, aC, aD]; refine hatH 25 rfl (by rintro W ⟨h0, h1, h2, h3, h4, h5, h6, h7⟩; go_simp; try rfl) HSv ?_; simp only [aZ, aC, aD]; refine hatH 26 rfl (by rintro W ⟨h0, h1, h2, h3, h4, h5, h6, h7⟩; go_simp; try rfl) HSv ?_; simp only [aZ, aC, aD]; refine hatH 27 rfl (by rintro W ⟨h0, h1, h2, h3, h4, h5, h6, h7⟩; go_simp; try rfl) HSv ?_; simp only [aZ, aC, aD]; refine hatH 28 rfl (by rintro W ⟨h0, h1, h2, h3, h4, h5, h6, h7⟩; go_simp; try rfl) HSv ?_; simp only [aZ, aC, aD]; refine hatH 29 rfl (by rintro W ⟨h0, h1, h2, h3, h4, h5, h6, h7⟩; go_simp; try rfl) HSv ?_; simp only [aZ, aC, aD]; refine hatH 30 rfl (by rintro W ⟨h0, h1, h2, h3, h4, h5, h6, h7⟩; go_simp; try rfl) HSv ?_; simp only [aZ, aC, aD]; refine hatH 31 rfl (by rintro W ⟨h0, h1, h2, h3, h4, h5, h6, h7⟩; go_simp; try rfl) HSv ?_; simp only [aZ, aC, aD]; refine hatH 32 rfl (by rintro W ⟨h0, h1, h2, h3, h4, h5, h6, h7⟩; go_simp; try rfl) HSv ?_; simp only [aZ, aC, aD]; refine hatH 33 rfl (by rintro W ⟨h0, h1, h2, h3, h4, h5, h6, h7⟩; go_simp; try rfl) HSv ?_; simp only [aZ, aC, aD]; refine hatH 34 rfl (by rintro W ⟨h0, h1, h2, h3, h4, h5, h6, h7⟩; go_simp; try rfl) HSv ?_; simp only [aZ, aC, aD]; refine hatH 35 rfl (by rintro W ⟨h0, h1, h2, h3, h4, h5, h6, h7⟩; go_simp; try rfl) HSv ?_; simp only [aZ, aC, aD]; refine hatH 36 rfl (by rintro W ⟨h0, h1, h2, h3, h4, h5, h6, h7⟩; go_simp; try rfl) HSv ?_; simp only [aZ, aC, aD]; refine hatH 37 rfl (by rintro W ⟨h0, h1, h2, h3, h4, h5, h6, h7⟩; go_simp; try rfl) HSv ?_; simp only [aZ, aC, aD]; refine hatH 38 rfl (by rintro W ⟨h0, h1, h2, h3, h4, h5, h6, h7⟩; go_simp; try rfl) HSv ?_; simp only [aZ, aC, aD]; refine hatH 39 rfl (by rintro W ⟨h0, h1, h2, h3, h4, h5, h6, h7⟩; go_simp; try rfl) HSv ?_; simp only [aZ, aC, aD]; refine hatH 40 rfl (by rintro W ⟨h0, h1, h2, h3, h4, h5, h6, h7⟩; go_simp; try rfl) HSv ?_; simp only [aZ, aC, aD]; refine hatH 41 rfl (by rintro W ⟨h0, h1, h2, h3, h4, h5, h6, h7⟩; go_simp; try rfl) HSv ?_; simp only [aZ, aC, aD]; refine hatH 42 rfl (by rintro W ⟨h0, h1, h2, h3, h4, h5, h6, h7⟩; go_simp; try rfl) HSv ?_; simp only [aZ, aC, aD]; refine hatH 43 rfl (by rintro W ⟨h0, h1, h2, h3, h4, h5, h6, h7⟩; go_simp; try rfl) HSv ?_; simp only [aZ, aC, aD]; refine hatH 44 rfl (by rintro W ⟨h0, h1, h2, h3, h4, h5, h6, h7⟩; go_simp; try rfl) HSv ?_; simp only [aZ, aC, aD]; refine hatH 45 rfl (by rintro W ⟨h0, h1, h2, h3, h4, h5, h6, h7⟩; go_simp; try rfl) HSv ?_; simp only [aZ, aC, aD]; refine hatH 46 rfl (by rintro W ⟨h0, h1, h2, h3, h4, h5, h6, h7⟩; go_simp; try rfl) HSv ?_; simp only [aZ, aC, aD]; refine hatH 47 rfl (by rintro W ⟨h0, h1, h2, h3, h4, h5, h6, h7⟩; go_simp; try rfl) HSv ?_; simp only [aZ, aC, aD]; refine hone 48 rfl fun K hK => ?_
    try go_simp
    go_at_call 171; refine (HO.out wr.drew (Below.refl _ _).drew).mono ?_; rintro e w3 ⟨⟨y, rfl, hy⟩, hb3⟩; obtain rfl : y = true := hy.2 (by first | exact trivial | rfl); have hb3' : Below wr.heap.size wr w3 := Below.trans (Below.refl _ _).drew hb3; have HSv := HC.out w3 hb3'; have HB3 := H_ hb3'; clear hb3 hb3' hy; refine hK _ _ (fun _ => HSv) ?_
    try simp only [aZ, aA, aE, aB, aC, aD]
    refine hatH 49 rfl (by rintro W ⟨h0, h1, h2, h3, h4, h5, h6, h7⟩; go_simp; try rfl) HSv ?_; simp only [aZ, aC, aD]; refine hatH 50 rfl (by rintro W ⟨h0, h1, h2, h3, h4, h5, h6, h7⟩; go_simp; try rfl) HSv ?_; simp only [aZ, aC, aD]; refine hend 51 ?_; simp only [aF, aG]; go_wp2_with fail
    go_roundg (len - (k + 1))
    case measure => omega
    case rel => exact ⟨k + 1, by omega, rfl, by go_num, HK.out.trans (HB3.out.mono HK.out.size)⟩
  . go_wp2_with fail; go_ret; exact ⟨rfl, HK.out⟩
end Go.Proofs.YtignponfoheaeaaGreat
