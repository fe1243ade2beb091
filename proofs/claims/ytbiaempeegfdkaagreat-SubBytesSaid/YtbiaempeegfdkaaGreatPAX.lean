import Derived.Test.YtbiaempeegfdkaaGreatPAW
import Derived.Test.YtbiaempeegfdkaaGreatPAU
import Derived.Lib.QuietBelow
import Derived.Test.YtbiaempeegfdkaaGreatPAV
import Derived.Test.YtbiaempeegfdkaaGreatPAL
set_option linter.unusedVariables false
set_option linter.unusedSimpArgs false
set_option maxHeartbeats 16000000
namespace Go.Proofs.YtbiaempeegfdkaaGreat
open Go.RowKit Go.Tg Go.Maps
structure NoneS (v : Value) (w : World) : Prop where
 out : ∀ W, Below w.heap.size w W -> Calls Tryz.prog 22 #[v] W fun e w' => e = .returned (.bool true) /\ W = w'
section
variable {v : Value} {w : World}
end
def Few (l : List Opt) : Prop := l.length <= 30 /\ ∀ o ∈ l, (0 <= o.t /\ o.t <= 255) /\ o.v.size <= 255
theorem by0_lt (s : ByteArray) (i : Nat) : by0 s i < 256 := UInt8.toNat_lt _
theorem goS_few : ∀ (n : Nat) (s : ByteArray) (out : List Opt), Few out -> Few (goS n s out).1
 | 0, _, _, h => h
 | n + 1, s, out, h => by
  have h0 : Few [] := ⟨by decide, fun o ho => by cases ho⟩; unfold goS
  split
  . exact h
  . split
    . exact h0
    . split
      . exact h0
      . split
        . exact h0
        . split
          . exact h0
          . refine goS_few n _ _ ⟨?_, fun o ho => ?_⟩
            . rw [List.length_append]; show out.length + 1 <= 30; omega
            . rcases List.mem_append.1 ho with ho | ho
              . exact h.2 o ho
              . simp only [List.mem_singleton] at ho; subst ho; refine ⟨⟨by show (0 : Int) <= (by0 s 0 : Int); omega, by show (by0 s 0 : Int) <= 255; have := by0_lt s 0; omega⟩, ?_⟩
                show (s.extract 2 (by0 s 1)).size <= 255
                rw [ByteArray.size_extract]; have := by0_lt s 1; omega
theorem gdS_few (s : ByteArray) : Few (gdS s).1.o := by
 rw [(gdS_d s).2]; exact ⟨by decide, fun o ho => by cases ho⟩
theorem getS_pk (s : ByteArray) (hs : s.size <= 2000) : PkOk (getS s).1 := by
 have h0 : Few [] := ⟨by decide, fun o ho => by cases ho⟩; have hd := gdS_d s
 have h : Few (getS s).1.o /\ (getS s).1.d.size <= 2000 := by
  unfold getS
  repeat' split
  . exact ⟨gdS_few s, by omega⟩
  . exact ⟨gdS_few s, by omega⟩
  . exact ⟨h0, by show (0 : Nat) <= 2000; decide⟩
  . exact ⟨goS_few _ _ _ h0, by show (0 : Nat) <= 2000; decide⟩
 refine ⟨by have := h.1.1; omega, fun o ho => ?_, fun o ho => by have := (h.1.2 o ho).2; omega, by have := h.2; omega⟩; have := (h.1.2 o ho).1; unfold I64; simp only [Lit.wf, IntKind.min, IntKind.max, IntKind.signed, IntKind.bits, Bool.and_eq_true, decide_eq_true_eq, if_true]; omega
theorem pppS_le (s : ByteArray) (hs : s.size <= 2000) : (pppS s).2.1.size <= 2000 := by
 unfold pppS
 repeat' split
 . show (0 : Nat) <= 2000; decide
 . show (0 : Nat) <= 2000; decide
 . show (0 : Nat) <= 2000; decide
 . show (s.extract 2 s.size).size <= 2000
   rw [ByteArray.size_extract]; omega
theorem isData_data (n : Int) (w : World) (h : n = 49187 \/ n = 49699) : Calls Tryz.prog 64 #[.int .i64 n] w fun e w' => e = .returned (.bool true) /\ w = w' := by
 rcases h with rfl | rfl
 all_goals
  go_enter Tryz.func64, Tryz.ntmps64; go_wp2_with fail; go_ret; exact ⟨rfl, rfl⟩
set_option maxRecDepth 100000 in
theorem getOf_data (n : Int) (s : ByteArray) (w : World) (h : n = 49187 \/ n = 49699) (hs : s.size <= 1000000000) :
 Calls Tryz.prog 32 #[.int .i64 n, .string s] w fun e w' => e = .returned (.tuple #[pkV (gdS s).1 (.slice none 0 0), .int .i64 (gdS s).2]) /\ Below w.heap.size w w' := by
 have HD := H_ (fun w => isData_data n w h); have HG := H_ (fun w => getData_any s w hs); have hb0 := (Below.refl w.heap.size w).alloc (Nat.le_refl _) (.cells #[.int .i64 0, .int .i64 0, .slice none 0 0, .string ⟨#[]⟩] 59 (0, 0)); have x0 := at1 w (.cells #[.int .i64 0, .int .i64 0, .slice none 0 0, .string ⟨#[]⟩] 59 (0, 0)); have HB := H_ (A_ hb0 (A_ x0 (alloc1 w (.cells #[.int .i64 0, .int .i64 0, .slice none 0 0, .string ⟨#[]⟩] 59 (0, 0))))); clear h hs hb0 x0; generalize gdS s = G at *; obtain ⟨⟨c, i, o, d⟩, er⟩ := G; unfold pkV at HG ⊢
 dsimp only at HG ⊢
 go_enter Tryz.func32, Tryz.ntmps32; go_wp2_with fail; refine (HD.out _).mono ?_; rintro e w1 ⟨rfl, rfl⟩; go_wp2_with fail; refine (HG.out _).mono ?_; rintro e w1 ⟨rfl, b1⟩; have y := (b1.block w.heap.size (by rw [HB.out.2.2]; omega)).trans HB.out.2.1; have HY := H_ (A_ y (HB.out.1.trans (b1.mono HB.out.1.size))); have y0 := cellOf y 0 _ rfl; have y1 := cellOf y 1 _ rfl; have y2 := cellOf y 2 _ rfl; have y3 := cellOf y 3 _ rfl; have fz := fun o => fzOf y o; clear b1 y; go_wp2_with fail; refine bodyPost_ret (results_cell_tmp' rfl _ _ w.heap.size 59 _ (0, 0) _ rfl (set4' HY.out.1 _ _ _ _) Tryz.underlying59 rfl pk_cells') rfl ?_; exact ⟨rfl, HY.out.2.trans ((keep4' w1 w.heap.size _ _ _ _).below HY.out.2.size (fun g hg he => by have he : g = w.heap.size := he; omega))⟩
set_option maxRecDepth 100000 in
theorem getOf_opts (n : Int) (s : ByteArray) (w : World) (h1 : n ≠ 49187) (h2 : n ≠ 49699) (hs : s.size <= 1000000000) :
 Calls Tryz.prog 32 #[.int .i64 n, .string s] w fun e w' => ∃ ov, e = .returned (.tuple #[pkV (getS s).1 ov, .int .i64 (getS s).2]) /\ ORow w' w.heap.size ov (getS s).1.o /\ Below w.heap.size w w' := by
 have HD := H_ (fun w => isData_any n w h1 h2); have HG := H_ (fun w => oget_any s w hs); have hb0 := (Below.refl w.heap.size w).alloc (Nat.le_refl _) (.cells #[.int .i64 0, .int .i64 0, .slice none 0 0, .string ⟨#[]⟩] 59 (0, 0)); have x0 := at1 w (.cells #[.int .i64 0, .int .i64 0, .slice none 0 0, .string ⟨#[]⟩] 59 (0, 0)); have HB := H_ (A_ hb0 (A_ x0 (alloc1 w (.cells #[.int .i64 0, .int .i64 0, .slice none 0 0, .string ⟨#[]⟩] 59 (0, 0))))); clear h1 h2 hs hb0 x0; generalize getS s = G at *; obtain ⟨⟨c, i, o, d⟩, er⟩ := G; unfold pkV at HG ⊢
 dsimp only at HG ⊢
 go_enter Tryz.func32, Tryz.ntmps32; go_wp2_with fail; refine (HD.out _).mono ?_; rintro e w1 ⟨rfl, rfl⟩; go_wp2_with fail; refine (HG.out _).mono ?_; rintro e w1 ⟨ov, rfl, hr, b1⟩; obtain ⟨sa, sc, rfl⟩ := hr.form; have y := (b1.block w.heap.size (by rw [HB.out.2.2]; omega)).trans HB.out.2.1; have hown : ∀ k, (Value.slice sa o.length sc).ownBlock = some k -> ¬ k = w.heap.size := fun k hk => by have := (hr.lt k hk).2; rw [HB.out.2.2] at this; omega
 have HY := H_ (A_ y (A_ (HB.out.1.trans (b1.mono HB.out.1.size)) (A_ (hr.base HB.out.1.size) hown))); have y0 := cellOf y 0 _ rfl; have y1 := cellOf y 1 _ rfl; have y2 := cellOf y 2 _ rfl; have y3 := cellOf y 3 _ rfl; have fz := fun o => fzOf y o; clear b1 y hr hown; go_wp2_with fail; refine bodyPost_ret (results_cell_tmp' rfl _ _ w.heap.size 59 _ (0, 0) _ rfl (set4' HY.out.1 _ _ _ _) Tryz.underlying59 rfl pk_cells') rfl ?_; exact ⟨_, rfl, HY.out.2.2.1.keep (keep4' w1 w.heap.size _ _ _ _) HY.out.2.2.2, HY.out.2.1.trans ((keep4' w1 w.heap.size _ _ _ _).below HY.out.2.1.size (fun g hg he => by have he : g = w.heap.size := he; omega))⟩
section
variable {w0 w : World} {c : SCfg} {K : SB} {s : LSt} {st : Int} {ov : Value} {fr : List ByteArray}
set_option maxRecDepth 100000 in
theorem sOf_at (h : SubAt w0 w c K s st ov fr) (hst : st ≠ 4) (k : Int) : Calls Tryz.prog 28 #[.pointer (some ⟨K.b, 0, none⟩), .int .i64 k] w fun e w' => e = .returned (.agg #[.int .u8 0, .int .u8 0, .int .u8 0, .int .u8 0]) /\ Below w.heap.size w w' := by
 have hb1 : Below w.heap.size w (w.alloc (.cells #[.int .u8 0, .int .u8 0, .int .u8 0, .int .u8 0] 23 (0, 0))) := (Below.refl _ _).alloc (Nat.le_refl _) _; have x0 := at1 w (.cells #[.int .u8 0, .int .u8 0, .int .u8 0, .int .u8 0] 23 (0, 0)); have h1 := h.go hb1; have c16 := cellOf h1.blk 16 (.int .i64 st) rfl; have e4 : (st != 4) = true := by simpa using hst
 have H := H_ (A_ (snone_at h1) (A_ hb1 x0)); clear h h1 hb1 x0 hst; go_enter Tryz.func28, Tryz.ntmps28
 go_wp2_with (go_at_call 22; refine H.out.1.mono ?_; rintro e w1 ⟨rfl, rfl⟩)
 refine bodyPost_ret (results_cell_row rfl _ _ w.heap.size 23 _ (0, 0) _ rfl (at1 w _) Tryz.underlying23 rfl addr_cells) rfl ?_; exact ⟨rfl, H.out.2.1⟩
set_option maxRecDepth 100000 in
theorem sAddr_at (h : SubAt w0 w c K s st ov fr) (hst : st ≠ 4) : Calls Tryz.prog 17 #[.pointer (some ⟨K.b, 0, none⟩)] w fun e w' => e = .returned (.agg #[.int .u8 0, .int .u8 0, .int .u8 0, .int .u8 0]) /\ Below w.heap.size w w' := by
 have hb1 : Below w.heap.size w (w.alloc (.cells #[.int .u8 0, .int .u8 0, .int .u8 0, .int .u8 0] 23 (0, 0))) := (Below.refl _ _).alloc (Nat.le_refl _) _; have x0 := at1 w (.cells #[.int .u8 0, .int .u8 0, .int .u8 0, .int .u8 0] 23 (0, 0)); have H := H_ (A_ (sOf_at (h.go hb1) hst 3) (A_ hb1 x0)); clear h hb1 x0; go_enter Tryz.func17, Tryz.ntmps17; go_wp2_with fail; refine H.out.1.mono ?_; rintro e w1 ⟨rfl, b1⟩; have x1 := (b1.block w.heap.size (by rw [alloc1]; omega)).trans H.out.2.2; have y0 := cellOf x1 0 _ rfl; have y1 := cellOf x1 1 _ rfl; have y2 := cellOf x1 2 _ rfl; have y3 := cellOf x1 3 _ rfl; have z := fun o => fzOf x1 o; have HB := H_ (A_ (H.out.2.1.trans (b1.mono H.out.2.1.size)) x1); clear b1 x1; go_wp2_with fail; refine bodyPost_ret (results_cell_row rfl _ _ w.heap.size 23 _ (0, 0) _ rfl (set4' HB.out.2 _ _ _ _) Tryz.underlying23 rfl addr_cells) rfl ?_; exact ⟨rfl, HB.out.1.trans ((keep4' w1 w.heap.size (.int .u8 0) (.int .u8 0) (.int .u8 0) (.int .u8 0)).below HB.out.1.size (fun g hg he => by have he : g = w.heap.size := he; omega))⟩
set_option maxRecDepth 100000 in
theorem sHear_at (h : SubAt w0 w c K s st ov fr) (hst : st ≠ 4) (d : ByteArray) : Calls Tryz.prog 34 #[.pointer (some ⟨K.b, 0, none⟩), .string d] w fun e w' => e = .returned (.tuple #[]) /\ Below w.heap.size w w' := by
 have HA := H_ (A_ (sAddr_at h hst) h); have e4 : (st != 4) = true := by simpa using hst
 clear h hst; go_enter Tryz.func34, Tryz.ntmps34; go_wp2_with fail; refine HA.out.1.mono ?_; rintro e w1 ⟨rfl, b1⟩; have b2 := b1.alloc b1.size (.cells #[.int .u8 0, .int .u8 0, .int .u8 0, .int .u8 0] 23 (0, 0)); have h2 := HA.out.2.go b2; have c16 := cellOf h2.blk 16 (.int .i64 st) rfl; have HB := H_ b2; clear b1 b2 h2; go_wp2_with fail
 go_quiet (fail)
 go_wp2_with fail; refine bodyPost_ret (results_none rfl _ _ _) rfl ?_; exact ⟨rfl, HB.out.trans ⟨rfl, rfl, rfl, Nat.le_refl _, fun _ _ => rfl⟩⟩
end
theorem own_lC (c : LCfg) (lb : Nat) : ownB (lC c lb) := rfl
section
variable {w0 w : World} {c : SCfg} {K : SB} {s : LSt} {st : Int} {ov : Value} {fr : List ByteArray}
def LTk (w0 w w' : World) (c : SCfg) (K : SB) (st : Int) (ov : Value) (fr : List ByteArray) (okp : Nat -> Prop) (v : Value) : Prop :=
 ∃ s' l, PksAt w' (Grow okp w) w.heap.size v l /\ SubAt w0 w' c K s' st ov fr /\ s'.st.s ≠ 9 /\ (s'.st.s = 3 \/ BI s') /\ l.length <= 1 /\ ∀ q ∈ l, PkOk q
theorem SubAt.LTakeB (h : SubAt w0 w c K s st ov fr) (hB : BI s) (p : Pk) (po : Value) (okp : Nat -> Prop) (h1 : p.code ≠ 1) (h2 : p.code ≠ 2) (hp : PkOk p) (ho : Opts w okp po p.o) (hok : ∀ b, okp b -> ¬ K.L.t b) :
 Calls Tryz.prog 65 #[.pointer (some ⟨K.L.lb, 0, none⟩), pkV p po] w fun e w' => ∃ v, e = .returned v /\ LTk w0 w w' c K st ov fr okp v := by
 obtain ⟨S, okt, X, hl, hu⟩ := h.lk
 by_cases hc : p.code = 8 \/ p.code = 9 \/ p.code = 10 \/ p.code = 11
 . obtain ⟨sa, sc, rfl, -, -⟩ := ho.form; refine (LTakeS_at p.code p.id sa p.o.length sc p.d hc hl (by rw [hB.s6]; decide)).mono ?_; rintro e w' ⟨rfl, hb⟩; exact ⟨_, rfl, s, [], PksAt.nil _ _ _, h.go hb, by rw [hB.s6]; decide, .inr hB, by decide, fun q hq => by cases hq⟩
 . obtain ⟨t1, t2, t3, t4, t5⟩ := hB.take (own_lC c.l K.L.lb) p h1 h2; refine (LTakeG_at p po hp ⟨fun e => hc (.inl e), fun e => hc (.inr (.inl e)), fun e => hc (.inr (.inr (.inl e))), fun e => hc (.inr (.inr (.inr e)))⟩ hl hu hB.sync ho hok t1).mono ?_; rintro e w' ⟨v, rfl, hq, hv, hk⟩; exact ⟨v, rfl, _, _, hq, h.link hv hk, t2, t3, t4, t5⟩
def Part (w0 w' : World) (c : SCfg) (K : SB) : Prop := ∃ s' ov' fr', SubAt w0 w' c K s' 1 ov' fr' /\ s'.st.s ≠ 9 /\ (s'.st.s = 3 \/ BI s')
set_option maxRecDepth 100000 in
theorem packet_lcp {J : SB} (h : SubAt w0 w c J s 1 (.slice none 0 0) []) (hB : BI s) (p : Pk) (po : Value) (base : Nat) (h1 : p.code ≠ 1) (h2 : p.code ≠ 2) (hp : PkOk p) (ho : ORow w base po p.o) (hbase : J.b < base /\ ∀ b, J.L.t b -> b < base) :
 Calls Tryz.prog 33 #[.pointer (some ⟨J.b, 0, none⟩), .int .i64 49185, pkV p po] w fun e w' => e = .returned (.tuple #[]) /\ Part w0 w' c J := by
 obtain ⟨sa, sc, rfl⟩ := ho.form; obtain ⟨W, hW⟩ : ∃ W, W = w.alloc (.cells #[.int .i64 p.code, .int .i64 p.id, .slice sa p.o.length sc, .string p.d] 59 (0, 0)) := ⟨_, rfl⟩; have hb1 : Below w.heap.size w W := by rw [hW]; exact (Below.refl w.heap.size w).alloc (Nat.le_refl _) _
 have x0 : W.heap[w.heap.size]? = some (.cells #[.int .i64 p.code, .int .i64 p.id, .slice sa p.o.length sc, .string p.d] 59 (0, 0)) := by rw [hW]; exact at1 w _
 have hD := h.go hb1.drew; have hoD : Opts W.drew (fun b => base <= b) (.slice sa p.o.length sc) p.o := ((ho.below hb1).below (Below.refl W.heap.size W).drew).opts (by have := hp.len; unfold maxLen; omega); have HT := H_ (hD.LTakeB hB p _ _ h1 h2 hp hoD (fun b hb ht => by have := hbase.2 b ht; omega)); have h1' := h.go hb1; have c16 := cellOf h1'.blk 16 (.int .i64 1) rfl; rw [hW] at c16; have c12 := cellOf h1'.blk 12 (.pointer (some ⟨J.L.lb, 0, none⟩)) rfl; have y0 := cellOf x0 0 _ rfl; have y1 := cellOf x0 1 _ rfl; have y2 := cellOf x0 2 _ rfl; have y3 := cellOf x0 3 _ rfl; have d12 : W.drew.cell? ⟨J.b, 12, none⟩ = some (.pointer (some ⟨J.L.lb, 0, none⟩)) := cellOf hD.blk 12 _ rfl; have z0 : W.drew.cell? ⟨w.heap.size, 0, none⟩ = some (.int .i64 p.code) := y0; have z1 : W.drew.cell? ⟨w.heap.size, 1, none⟩ = some (.int .i64 p.id) := y1; have z2 : W.drew.cell? ⟨w.heap.size, 2, none⟩ = some (.slice sa p.o.length sc) := y2; have z3 : W.drew.cell? ⟨w.heap.size, 3, none⟩ = some (.string p.d) := y3
 have HK := H_ (show ∀ g, Grow (fun b => base <= b) W.drew g \/ W.drew.heap.size <= g -> g ≠ J.b /\ (Value.slice none 0 0).ownBlock ≠ some g from fun g hg => by
  have hlt := h.lt; have hsz : w.heap.size <= W.drew.heap.size := hb1.size; refine ⟨?_, fun e => nomatch e⟩
  rcases hg with (hg | hg) | hg
  . have hg : base <= g := hg; omega
  . have hg : W.drew.heap.size <= g := hg; omega
  . omega)
 clear h hB ho hb1 hD hoD h1' x0 hp h1 h2 hbase; unfold pkV at HT ⊢; go_enter Tryz.func33, Tryz.ntmps33
 go_upto_region 3 with (fail)
 rw [<- hW]; clear hW c16 c12 y0 y1 y2 y3; refine wp_region_H (rgH 0 0) (fun _ => True) (by kernel_rfl) ?_; refine hatP 0 rfl (by intro W _; go_simp; try rfl) ?_; simp only [aZ, aC, aD]; refine hatP 1 rfl (by intro W _; go_simp; try rfl) ?_; simp only [aZ, aC, aD]; refine hatP 2 rfl (by intro W _; go_simp; try rfl) ?_; simp only [aZ, aC, aD]; refine hatP 3 rfl (by intro W _; go_simp; try rfl) ?_; simp only [aZ, aC, aD]; refine hatP 4 rfl (by intro W _; go_simp; try rfl) ?_; simp only [aZ, aC, aD]; refine hatP 5 rfl (by intro W _; go_simp; try rfl) ?_; simp only [aZ, aC, aD]; generalize W.drew = V at *; refine wpAnyH_2 6 7 rfl rfl (by kernel_rfl) ?_ ?_
 . intro K hK; rw [if_pos (by rfl)]
   try go_simp
   refine hK _ _ (fun _ => trivial) ?_
   try simp only [aZ, aA, aE, aB, aC, aD]
   refine hone 7 rfl fun K hK => ?_
   try go_simp
   refine hK _ _ (fun _ => trivial) ?_
   try simp only [aZ, aA, aE, aB, aC, aD]
   refine hone 8 rfl fun K hK => ?_
   try go_simp
   go_at_call 65; refine HT.out.mono ?_; rintro e w1 ⟨v, rfl, s', l, hq, h1, hs9, hs3, hl, hpk⟩; have HS := H_ (say_at h1 49185 (by decide) (by kernel_rfl) (by decide) (by decide) l v _ _ hq HK.out (by omega) (by decide) hpk); have HF := H_ (A_ hs9 hs3); clear hq h1 hs9 hs3 hl hpk; refine hK _ _ (fun _ => trivial) ?_
   try simp only [aZ, aA, aE, aB, aC, aD]
   refine hone 9 rfl fun K hK => ?_
   try go_simp
   go_at_call 29; refine HS.out.mono ?_; rintro e w2 ⟨ov', rfl, h2⟩; have H2 := H_ h2; clear h2; refine hK _ _ (fun _ => trivial) ?_
   try simp only [aZ, aA, aE, aB, aC, aD]
   refine hend 10 ?_; simp only [aF, aG]; go_wp2_with fail
   go_end0
   exact ⟨rfl, s', ov', _, H2.out, HF.out.1, HF.out.2⟩
 . intro K hK; rw [if_pos (by rfl)]
   try go_simp
   refine hK _ _ (fun _ => trivial) ?_
   try simp only [aZ, aA, aE, aB, aC, aD]
   refine hone 6 rfl fun K hK => ?_
   try go_simp
   refine hK _ _ (fun _ => trivial) ?_
   try simp only [aZ, aA, aE, aB, aC, aD]
   refine hone 8 rfl fun K hK => ?_
   try go_simp
   go_at_call 65; refine HT.out.mono ?_; rintro e w1 ⟨v, rfl, s', l, hq, h1, hs9, hs3, hl, hpk⟩; have HS := H_ (say_at h1 49185 (by decide) (by kernel_rfl) (by decide) (by decide) l v _ _ hq HK.out (by omega) (by decide) hpk); have HF := H_ (A_ hs9 hs3); clear hq h1 hs9 hs3 hl hpk; refine hK _ _ (fun _ => trivial) ?_
   try simp only [aZ, aA, aE, aB, aC, aD]
   refine hone 9 rfl fun K hK => ?_
   try go_simp
   go_at_call 29; refine HS.out.mono ?_; rintro e w2 ⟨ov', rfl, h2⟩; have H2 := H_ h2; clear h2; refine hK _ _ (fun _ => trivial) ?_
   try simp only [aZ, aA, aE, aB, aC, aD]
   refine hend 10 ?_; simp only [aF, aG]; go_wp2_with fail
   go_end0
   exact ⟨rfl, s', ov', _, H2.out, HF.out.1, HF.out.2⟩
set_option maxRecDepth 100000 in
theorem packet_other {J : SB} (h : SubAt w0 w c J s 1 (.slice none 0 0) []) (n : Int) (hn : n = 49187 \/ n = 49699 \/ n = 32801) (p : Pk) (sa : Option Addr) (len sc : Nat) :
 Calls Tryz.prog 33 #[.pointer (some ⟨J.b, 0, none⟩), .int .i64 n, pkV p (.slice sa len sc)] w fun e w' => e = .returned (.tuple #[]) /\ Below w.heap.size w w' := by
 have hb1 := (Below.refl w.heap.size w).alloc (Nat.le_refl _) (.cells #[.int .i64 p.code, .int .i64 p.id, .slice sa len sc, .string p.d] 59 (0, 0)); have h1' := h.go hb1; have c16 := cellOf h1'.blk 16 (.int .i64 1) rfl; have HB := H_ hb1; clear h hb1 h1'; unfold pkV
 rcases hn with rfl | rfl | rfl
 all_goals
  go_enter Tryz.func33, Tryz.ntmps33; go_wp2_with fail
  go_end0
  exact ⟨rfl, HB.out⟩
def Tkn (w0 w' : World) (c : SCfg) (J : SB) (e : Ending) : Prop := ∃ sa n sc s' st', e = .returned (.slice sa n sc) /\ SubAt w0 w' c J s' st' (.slice none 0 0) [] /\ (st' = 0 \/ (st' = 1 /\ BI s'))
theorem told_fin {J : SB} (h : SubAt w0 w c J s 1 ov fr) (h9 : s.st.s ≠ 9) (h3 : s.st.s = 3 \/ BI s) : Calls Tryz.prog 31 #[.pointer (some ⟨J.b, 0, none⟩)] w fun e w' => Tkn w0 w' c J e := by
 refine (told_at' h h9 (.inr rfl)).mono ?_; rintro e w' ⟨rfl, hr, h'⟩; obtain ⟨sa, sc, rfl⟩ := hr.form; refine ⟨sa, _, sc, s, _, rfl, h', ?_⟩
 rcases h3 with h3 | h3
 . left
   unfold lookS lookB shutB; rw [h3]; rfl
 . right
   refine ⟨?_, h3⟩; unfold lookS lookB shutB; rw [h3.s6]; rfl
set_option maxRecDepth 100000 in
theorem sTake_any {J : SB} (h : SubAt w0 w c J s 1 (.slice none 0 0) []) (hB : BI s) (d : ByteArray) (hd : d.size <= 2000)
 (hx : (pppS d).2.2 = 0 -> (getS (pppS d).2.1).2 = 0 -> (pppS d).1 = 49185 -> (getS (pppS d).2.1).1.code ≠ 1 /\ (getS (pppS d).2.1).1.code ≠ 2) :
 Calls Tryz.prog 13 #[.pointer (some ⟨J.b, 0, none⟩), .string d] w fun e w' => Tkn w0 w' c J e := by
 have HN := H_ (snone_at h); have HP := H_ (getPpp_any d w (by omega)); have hsz := pppS_le d hd; have c16 := cellOf h.blk 16 (.int .i64 1) rfl; have H := H_ (A_ h hB); generalize pppS d = R at *; obtain ⟨n, dt, er⟩ := R
 dsimp only at HP hsz hx
 clear h hB hd
 by_cases he : ¬ er = 0
 . have q1 : (er != 0) = true := by simpa using he
   have q2 : (er == 0) = false := by simpa using he
   clear he hx; go_enter Tryz.func13, Tryz.ntmps13; go_wp2_with fail; refine HN.out.mono ?_; rintro e w1 ⟨rfl, rfl⟩; go_wp2_with fail; refine HP.out.mono ?_; rintro e w1 ⟨rfl, b1⟩; have h1 := H.out.1.go b1; have c16' := cellOf h1.blk 16 (.int .i64 1) rfl; have c12' := cellOf h1.blk 12 (.pointer (some ⟨J.L.lb, 0, none⟩)) rfl; have H1 := H_ h1; clear b1 h1 c16; go_wp2_with fail; go_ret; exact ⟨_, _, _, _, _, rfl, H1.out, .inr ⟨rfl, H.out.2⟩⟩
 have he := Classical.not_not.1 he; subst he
 by_cases hn : n = 49185
 . subst hn; have HG := H_ (fun w => getOf_opts 49185 dt w (by decide) (by decide) (by omega)); have HPK := H_ (getS_pk dt hsz); have HX := H_ (hx rfl); clear hx; generalize getS dt = G at *; obtain ⟨P, E⟩ := G
   dsimp only at HG HPK HX
   by_cases hE : E = 0
   . subst hE; have HXX := H_ (HX.out rfl rfl); clear HX; go_enter Tryz.func13, Tryz.ntmps13; go_wp2_with fail; refine HN.out.mono ?_; rintro e w1 ⟨rfl, rfl⟩; go_wp2_with fail; refine HP.out.mono ?_; rintro e w1 ⟨rfl, b1⟩; have h1 := H.out.1.go b1; have c16' := cellOf h1.blk 16 (.int .i64 1) rfl; have c12' := cellOf h1.blk 12 (.pointer (some ⟨J.L.lb, 0, none⟩)) rfl; have hlt := h1.lt
     have hLt : ∀ b, J.L.t b -> b < w1.heap.size := by
      obtain ⟨S, okt, X, hl, hu⟩ := h1.lk; exact fun b hb => hl.lt hb
     have H1 := H_ (A_ h1 (A_ hlt hLt)); clear b1 h1 hlt hLt c16 c12'; go_wp2_with fail; refine (HG.out _).mono ?_; rintro e w2 ⟨ov2, rfl, hr2, b2⟩; obtain ⟨sa, sc, rfl⟩ := hr2.form; have hb3 := (Below.refl w2.heap.size w2).alloc (Nat.le_refl _) (.cells #[.int .i64 P.code, .int .i64 P.id, .slice sa P.o.length sc, .string P.d] 59 (0, 0)); have HK := H_ (packet_lcp ((H1.out.1.go b2).go hb3) H.out.2 P (.slice sa P.o.length sc) w1.heap.size HXX.out.1 HXX.out.2 HPK.out (hr2.below hb3) H1.out.2); unfold pkV at HK ⊢; clear hr2 b2 hb3 c16'; go_wp2_with fail; refine HK.out.mono ?_; rintro e w4 ⟨rfl, s4, ov4, fr4, h4, h49, h43⟩; have HT := H_ (told_fin h4 h49 h43); clear h4 h49 h43; go_wp2_with fail; refine HT.out.mono ?_; rintro e w5 ⟨sa5, n5, sc5, s5, st5, rfl, h5, hf5⟩; have HF := H_ (A_ h5 hf5); clear h5 hf5; go_wp2_with fail; go_ret; exact ⟨_, _, _, _, _, rfl, HF.out.1, HF.out.2⟩
   . have q1 : (E == 0) = false := by simpa using hE
     have q2 : (E != 0) = true := by simpa using hE
     clear hE; go_enter Tryz.func13, Tryz.ntmps13; go_wp2_with fail; refine HN.out.mono ?_; rintro e w1 ⟨rfl, rfl⟩; go_wp2_with fail; refine HP.out.mono ?_; rintro e w1 ⟨rfl, b1⟩; have h1 := H.out.1.go b1; have c16' := cellOf h1.blk 16 (.int .i64 1) rfl; have c12' := cellOf h1.blk 12 (.pointer (some ⟨J.L.lb, 0, none⟩)) rfl; have H1 := H_ h1; clear b1 h1 c16 c12'; go_wp2_with fail; refine (HG.out _).mono ?_; rintro e w2 ⟨ov2, rfl, hr2, b2⟩; obtain ⟨sa, sc, rfl⟩ := hr2.form; have hb3 := b2.alloc b2.size (.cells #[.int .i64 P.code, .int .i64 P.id, .slice sa P.o.length sc, .string P.d] 59 (0, 0)); have HT := H_ (told_fin (H1.out.go hb3) (by rw [H.out.2.s6]; decide) (.inr H.out.2)); unfold pkV; clear hr2 b2 hb3 c16'; go_wp2_with fail; refine HT.out.mono ?_; rintro e w5 ⟨sa5, n5, sc5, s5, st5, rfl, h5, hf5⟩; have HF := H_ (A_ h5 hf5); clear h5 hf5; go_wp2_with fail; go_ret; exact ⟨_, _, _, _, _, rfl, HF.out.1, HF.out.2⟩
 have r1 : (n == 49185) = false := by simpa using hn
 have r1' : (n != 49185) = true := by simpa using hn
 clear hx
 by_cases hm : n = 49187 \/ n = 49699 \/ n = 32801
 . have HG : Hid (∀ w, Calls Tryz.prog 32 #[.int .i64 n, .string dt] w fun e w' => ∃ P sa len sc E, e = .returned (.tuple #[pkV P (.slice sa len sc), .int .i64 E]) /\ Below w.heap.size w w') := H_ fun w => by
    by_cases hdt : n = 49187 \/ n = 49699
    . exact (getOf_data n dt w hdt (by omega)).mono (fun e w' h => ⟨_, _, _, _, _, h.1, h.2⟩)
    . refine (getOf_opts n dt w (by omega) (by omega) (by omega)).mono ?_; rintro e w' ⟨ov, rfl, hr, hb⟩; obtain ⟨sa, sc, rfl⟩ := hr.form; exact ⟨_, _, _, _, _, rfl, hb⟩
   have HK := H_ (fun (w : World) (h : SubAt w0 w c J s 1 (.slice none 0 0) []) (P : Pk) sa len sc => packet_other h n hm P sa len sc); clear hn
   rcases hm with rfl | rfl | rfl
   all_goals
    go_enter Tryz.func13, Tryz.ntmps13; go_wp2_with fail; refine HN.out.mono ?_; rintro e w1 ⟨rfl, rfl⟩; go_wp2_with fail; refine HP.out.mono ?_; rintro e w1 ⟨rfl, b1⟩; have h1 := H.out.1.go b1; have c16' := cellOf h1.blk 16 (.int .i64 1) rfl; have c12' := cellOf h1.blk 12 (.pointer (some ⟨J.L.lb, 0, none⟩)) rfl; have H1 := H_ h1; clear b1 h1 c16 c12'; go_wp2_with fail; refine (HG.out _).mono ?_; rintro e w2 ⟨P, sa, len, sc, E, rfl, b2⟩; have hb3 := b2.alloc b2.size (.cells #[.int .i64 P.code, .int .i64 P.id, .slice sa len sc, .string P.d] 59 (0, 0)); have h3 := H1.out.go hb3; have H3 := H_ h3; have HK3 := H_ (HK.out _ h3 P sa len sc); unfold pkV at HK3 ⊢; clear b2 hb3 c16' h3
    by_cases hE : E = 0
    . subst hE; go_wp2_with fail; refine HK3.out.mono ?_; rintro e w4 ⟨rfl, b4⟩; have HT := H_ (told_fin (H3.out.go b4) (by rw [H.out.2.s6]; decide) (.inr H.out.2)); clear b4; go_wp2_with fail; refine HT.out.mono ?_; rintro e w5 ⟨sa5, n5, sc5, s5, st5, rfl, h5, hf5⟩; have HF := H_ (A_ h5 hf5); clear h5 hf5; go_wp2_with fail; go_ret; exact ⟨_, _, _, _, _, rfl, HF.out.1, HF.out.2⟩
    . have q1 : (E == 0) = false := by simpa using hE
      have q2 : (E != 0) = true := by simpa using hE
      have HT := H_ (told_fin H3.out (by rw [H.out.2.s6]; decide) (.inr H.out.2)); clear hE; go_wp2_with fail; refine HT.out.mono ?_; rintro e w5 ⟨sa5, n5, sc5, s5, st5, rfl, h5, hf5⟩; have HF := H_ (A_ h5 hf5); clear h5 hf5; go_wp2_with fail; go_ret; exact ⟨_, _, _, _, _, rfl, HF.out.1, HF.out.2⟩
 have r2 : (n == 49187) = false := by simp; omega
 have r3 : (n == 49699) = false := by simp; omega
 have r4 : (n == 32801) = false := by simp; omega
 clear hn hm
 by_cases h33 : n = 33
 . subst h33; go_enter Tryz.func13, Tryz.ntmps13; go_wp2_with fail; refine HN.out.mono ?_; rintro e w1 ⟨rfl, rfl⟩; go_wp2_with fail; refine HP.out.mono ?_; rintro e w1 ⟨rfl, b1⟩; have h1 := H.out.1.go b1; have c16' := cellOf h1.blk 16 (.int .i64 1) rfl; have c12' := cellOf h1.blk 12 (.pointer (some ⟨J.L.lb, 0, none⟩)) rfl; have H1 := H_ h1; have HH := H_ (sHear_at h1 (by decide) dt); clear b1 h1 c16 c12'; go_wp2_with fail; refine HH.out.mono ?_; rintro e w4 ⟨rfl, b4⟩; have HT := H_ (told_fin (H1.out.go b4) (by rw [H.out.2.s6]; decide) (.inr H.out.2)); clear b4 c16'; go_wp2_with fail; refine HT.out.mono ?_; rintro e w5 ⟨sa5, n5, sc5, s5, st5, rfl, h5, hf5⟩; have HF := H_ (A_ h5 hf5); clear h5 hf5; go_wp2_with fail; go_ret; exact ⟨_, _, _, _, _, rfl, HF.out.1, HF.out.2⟩
 . have r5 : (n == 33) = false := by simpa using h33
   clear h33; go_enter Tryz.func13, Tryz.ntmps13; go_wp2_with fail; refine HN.out.mono ?_; rintro e w1 ⟨rfl, rfl⟩; go_wp2_with fail; refine HP.out.mono ?_; rintro e w1 ⟨rfl, b1⟩; have h1 := H.out.1.go b1; have c16' := cellOf h1.blk 16 (.int .i64 1) rfl; have c12' := cellOf h1.blk 12 (.pointer (some ⟨J.L.lb, 0, none⟩)) rfl; have H1 := H_ h1
   have HR : Hid (Calls Tryz.prog 35 #[.pointer (some ⟨J.L.lb, 0, none⟩), .int .i64 n, .string dt] w1 fun e w' => e = .returned (.slice none 0 0) /\ w1 = w') := by
    obtain ⟨S, okt, X, hl, hu⟩ := h1.lk; exact H_ (LReject_shut hl (by rw [H.out.2.s6]; decide) n dt)
   have HS := H_ (say_at h1 49185 (by decide) (by kernel_rfl) (by decide) (by decide) [] (.slice none 0 0) _ _ (PksAt.nil w1 (fun _ => False) w1.heap.size) (fun g hg => ⟨fun e => by have := h1.lt; rcases hg with hg | hg; exact hg.elim; omega, fun e => nomatch e⟩) (by decide) (by decide) (fun q hq => by cases hq)); clear b1 h1 c16; go_wp2_with fail; refine HR.out.mono ?_; rintro e w3 ⟨rfl, rfl⟩; go_wp2_with fail; refine HS.out.mono ?_; rintro e w4 ⟨ov4, rfl, h4⟩; have HT := H_ (told_fin h4 (by rw [H.out.2.s6]; decide) (.inr H.out.2)); clear h4 c16' c12'; go_wp2_with fail; refine HT.out.mono ?_; rintro e w5 ⟨sa5, n5, sc5, s5, st5, rfl, h5, hf5⟩; have HF := H_ (A_ h5 hf5); clear h5 hf5; go_wp2_with fail; go_ret; exact ⟨_, _, _, _, _, rfl, HF.out.1, HF.out.2⟩
end
def Strs (w : World) (ok : Nat -> Prop) (v : Value) (l : List ByteArray) : Prop := Rec 1 w ok v (strL l)
theorem Strs.form {w : World} {ok : Nat -> Prop} {v : Value} {l : List ByteArray} (h : Strs w ok v l) : ∃ sa c, v = .slice sa l.length c /\ l.length <= c /\ c <= maxLen := by
 obtain ⟨sa, c, hv, h1, h2⟩ := Rec.form h; rw [strL_len] at hv h1; exact ⟨sa, c, hv, h1, h2⟩
theorem Strs.at {w : World} {ok : Nat -> Prop} {sa : Option Addr} {n c : Nat} {l : List ByteArray} (h : Strs w ok (.slice sa n c) l) (i : Nat) (hi : i < l.length) :
 ∃ b off, sa = some ⟨b, off, none⟩ /\ ∀ Y, Below w.heap.size w Y -> Y.cell? ⟨b, off + i, none⟩ = some (.string l[i]) := by
 obtain ⟨b, off, hs, hb, -, -, -, -, hr⟩ := Rec.at h i (by rw [strL_len]; exact hi); refine ⟨b, off, hs, fun Y hY => ?_⟩; have := hr 0 (.string l[i]) (by simp [strL]); rw [Nat.mul_one, Nat.add_zero] at this; exact (hY.cell (p := ⟨b, off + i, none⟩) hb).trans this
theorem strs_of {H : Type} {enc : TypeId × Value -> H} {w : World} {base : Nat} {spare : Nat -> Bool} {held : Bool} {fuel : Nat} {a : Option Addr} {len cap : Nat} {x : DataW H × List MemPlace}
 (h : DataW.trod enc Tryz.prog w base spare held fuel 35 [.slice a len cap] = some x) : ∃ l : List ByteArray, l.length = len /\ Strs w (fun _ => True) (.slice a len cap) l /\ (∀ o ∈ l, o.size <= maxLen) := by
 have c3 : Tryz.prog.cellsOf 9 = 1 := by kernel_rfl
 rcases Go.Deep.open_slice Tryz.underlying35 h with ⟨hcs, _⟩ | ⟨p, l, c, m, n, D, Pl, hcs, hb, hl, hm, hmm, hx, hi⟩
 . simp at hcs
   obtain ⟨rfl, rfl, rfl⟩ := hcs; exact ⟨[], rfl, Rec.nil _ _ _, (by intro o ho; exact absurd ho List.not_mem_nil)⟩
 . simp at hcs
   obtain ⟨rfl, rfl, rfl⟩ := hcs; have hlm : len <= m := by rw [hmm]; split <;> omega
   rw [c3] at hi
   have key : ∀ i, i < len -> ∃ o : ByteArray, (∀ j u, ([.string o] : List Value)[j]? = some u -> w.cell? (p.add (i * 1 + j)) = some u) /\ o.size <= maxLen := by
    intro i hil; obtain ⟨cs', hc, ht⟩ := hi i (by omega); obtain ⟨_, hcl, hat⟩ := World.cells?_some hc
    obtain ⟨v0, rfl⟩ : ∃ v0, cs' = [v0] := by
     match cs', hcl with
     | [v0], _ => exact ⟨v0, rfl⟩
    have e0 := hat 0 (by omega); rw [Go.Deep.add_add] at e0; obtain ⟨k0, hk0, -, hw0⟩ := DataW.trod_string Tryz.underlying9 ht; simp only [List.cons.injEq, and_true] at hk0; subst hk0; refine ⟨k0, fun j u hu => ?_, hw0⟩
    match j, hu with
    | 0, hu => cases hu; exact e0
    | j + 1, hu => simp at hu
   obtain ⟨l, hll, hp⟩ := build_list _ len key; refine ⟨l, hll, ⟨strL_k l, some p, cap, by rw [strL_len, hll], by rw [strL_len, hll]; exact hl, hm, ?_⟩, fun o ho => ?_⟩
   . by_cases hz : len = 0
     . left
       have : l = [] := List.eq_nil_of_length_eq_zero (by omega); subst this; rfl
     . right
       obtain ⟨bb, off, spot⟩ := p; have h0 := (hp 0 (by omega)).1 0 _ rfl
       have hn : spot = none := by
        cases spot with
        | none => rfl
        | some s =>
         exfalso
         simp only [Nat.zero_mul, Addr.add, World.cell?, if_true, Option.isSome_some] at h0
         split at h0 <;> cases h0
       subst hn; simp only [Addr.add_lit] at h0; refine ⟨bb, off, rfl, ?_, trivial, ?_⟩
       . unfold World.cell? at h0
         by_cases hlt : bb < w.heap.size
         . exact hlt
         . have : w.heap[bb]? = none := by simp; omega
           simp [this] at h0
       . intro i hi j u hu; have hi' : i < l.length := by rwa [strL_len] at hi
         have e : (strL l)[i] = [.string l[i]] := by simp [strL]
         rw [e] at hu; have := (hp i hi').1 j u hu; rw [Addr.add_lit, <- Nat.add_assoc] at this; exact this
   . obtain ⟨i, hil, rfl⟩ := List.getElem_of_mem ho; exact (hp i hil).2
theorem bi25 : BI (sUp cfg25.l ⟨[], 0⟩) := by
 have ho : (sUp cfg25.l ⟨[], 0⟩).st.req = o25 := by kernel_rfl
 refine ⟨rfl, fun o h => ?_, ?_⟩
 . rw [ho] at h; have h : some (⟨5, pB4 3001⟩ : Opt) = some o := h; cases h
   refine ⟨by show (4 : Nat) <= 7; decide, by kernel_rfl⟩
 . rw [ho]; refine ⟨by decide, fun o h => ?_⟩; unfold o25 at h; simp only [List.mem_singleton] at h; subst h; exact ⟨.inr rfl, by show (4 : Nat) <= 7; decide⟩
section
variable {w0 w : World} {c : SCfg} {K : SB} {s : LSt} {st : Int}
theorem sTake_down (h : SubAt w0 w c K s 0 (.slice none 0 0) []) (d : ByteArray) :
 Calls Tryz.prog 13 #[.pointer (some ⟨K.b, 0, none⟩), .string d] w fun e w' => Tkn w0 w' c K e := by
 have HN := H_ (snone_at h); have c16 : w.cell? ⟨K.b, 16, none⟩ = some (.int .i64 0) := cellOf h.blk 16 _ rfl; have H := H_ h; clear h; go_enter Tryz.func13, Tryz.ntmps13; go_wp2_with fail; refine HN.out.mono ?_; rintro e w1 ⟨rfl, rfl⟩; go_wp2_with fail; go_ret; exact ⟨_, _, _, _, _, rfl, H.out, .inl rfl⟩
def Lo (w0 w : World) (c : SCfg) (K : SB) : Prop := ∃ s st, SubAt w0 w c K s st (.slice none 0 0) [] /\ (st = 0 \/ (st = 1 /\ BI s))
theorem Lo.go {w' : World} (h : Lo w0 w c K) (hb : Below w.heap.size w w') : Lo w0 w' c K := by
 obtain ⟨s, st, h1, h2⟩ := h; exact ⟨s, st, h1.go hb, h2⟩
theorem Lo.take (h : Lo w0 w c K) (d : ByteArray) (hd : d.size <= 2000)
 (hx : (pppS d).2.2 = 0 -> (getS (pppS d).2.1).2 = 0 -> (pppS d).1 = 49185 -> (getS (pppS d).2.1).1.code ≠ 1 /\ (getS (pppS d).2.1).1.code ≠ 2) :
 Calls Tryz.prog 13 #[.pointer (some ⟨K.b, 0, none⟩), .string d] w fun e w' => ∃ sa n sc, e = .returned (.slice sa n sc) /\ Lo w0 w' c K := by
 obtain ⟨s, st, h1, rfl | ⟨rfl, h2⟩⟩ := h
 . refine (sTake_down h1 d).mono ?_; rintro e w' ⟨sa, n, sc, s', st', rfl, h3, h4⟩; exact ⟨_, _, _, rfl, s', st', h3, h4⟩
 . refine (sTake_any h1 h2 d hd hx).mono ?_; rintro e w' ⟨sa, n, sc, s', st', rfl, h3, h4⟩; exact ⟨_, _, _, rfl, s', st', h3, h4⟩
end
set_option maxRecDepth 100000 in
theorem subBytes_any (l : List ByteArray) (lv : Value) (w : World) (hl : Strs w (fun _ => True) lv l) (hm : ∀ s ∈ l, s.size <= maxLen) :
 Calls Tryz.prog 5 #[lv] w fun e w' => e = .returned (.bool true) /\ Below w.heap.size w w' := by
 obtain ⟨sa, sc, rfl, hc, hcm⟩ := hl.form; have q1 : ∀ w a, (binOp .eql 25 (.pointer (some a)) (.pointer none)).run Tryz.prog w = .ok (.bool false) w := fun w a => by kernel_rfl
 have HC := H_ (fun w => cfg25_any w); have HA := H_ (fun w => alive25_any w); have HN := H_ (fun w => snew_any cfg25 w cfg25_ok); have HL := H_ (A_ hl hm); obtain ⟨len, hln⟩ : ∃ len, len = l.length := ⟨_, rfl⟩; have HLN := H_ hln; rw [<- hln] at hc ⊢; unfold maxLen at hcm; clear hl hm hln
 by_cases h60 : 60 < len
 . have dd : decide ((60 : Int) < (len : Int)) = true := by simp; omega
   clear h60; go_enter Tryz.func5, Tryz.ntmps5; go_wp2_with fail; refine (HA.out _).mono ?_; rintro e w2 ⟨rfl, b2⟩; have HB := H_ b2; clear b2; go_wp2_with fail; go_ret; exact ⟨rfl, HB.out⟩
 have dd : decide ((60 : Int) < (len : Int)) = false := by simp; omega
 have h60 : len <= 60 := by omega
 go_enter Tryz.func5, Tryz.ntmps5; go_wp2_with fail; refine (HC.out _).mono ?_; rintro e w1 ⟨rfl, hb1⟩; have H1 := H_ hb1; clear hb1; go_wp2_with fail; refine (HN.out _).mono ?_; rintro e w2 ⟨K, rfl, h2⟩; have HU := H_ (sup_any h2 cfg25_ok (by decide)); clear h2; go_wp2_with fail; refine HU.out.mono ?_; rintro e w3 ⟨K3, ov, hKb, rfl, hr, h3⟩; obtain ⟨sa3, sc3, rfl⟩ := hr.form; have H3 := H_ (show Lo w1 w3 cfg25 K3 from ⟨_, _, h3, .inr ⟨rfl, bi25⟩⟩); have HB3 := H_ (H1.out.trans (h3.bl.mono H1.out.size)); rw [<- hKb]; clear hr h3 hKb HU HN HC; go_wp2_with fail
 go_loopg [5] len (fun x i wr => ∃ k : Nat, k <= len /\ x = len - k /\ i = .int .i64 k /\ Hid (Lo w1 wr cfg25 K3 /\ Below w.heap.size w wr))
 case atStart => exact ⟨0, by omega, by omega, rfl, H_ ⟨H3.out, HB3.out⟩⟩
 case round =>
  obtain ⟨k, hk, rfl, rfl, hK⟩ := hrel; have HK := H_ hK.out; clear hK
  by_cases hkl : k < len
  . have hkl' : k < l.length := by have := HLN.out; omega
    obtain ⟨b, off, rfl, ch⟩ := HL.out.1.at k hkl'; have hsm := HL.out.2 _ (List.getElem_mem hkl'); have d1 := ch wr HK.out.2; have HCH := H_ ch; unfold maxLen at hsm; clear ch; generalize l[k] = d at *
    by_cases hs : 2000 < d.size
    . have dd : decide ((2000 : Int) < (d.size : Int)) = true := by simp; omega
      clear hs; go_wp2_with fail; refine (HA.out _).mono ?_; rintro e w4 ⟨rfl, b4⟩; have HB := H_ (HK.out.2.trans (b4.mono HK.out.2.size)); clear b4; go_wp2_with fail; go_ret; exact ⟨rfl, HB.out⟩
    . have dd : decide ((2000 : Int) < (d.size : Int)) = false := by simp; omega
      have hs2 : d.size <= 2000 := by omega
      have HTK := H_ (fun (W : World) (h : Lo w1 W cfg25 K3) hx => h.take d hs2 hx); have HP := H_ (fun w => getPpp_any d w (by omega)); have HG := H_ (fun w => oget_any (pppS d).2.1 w (by have := pppS_le d hs2; omega)); generalize hR : pppS d = R at *; obtain ⟨n, dt, er⟩ := R
      dsimp only at HTK HP HG
      generalize hG2 : getS dt = G at *; obtain ⟨P, E⟩ := G
      dsimp only at HTK HP HG
      clear hR hG2 hs hs2; go_wp2_with fail; refine (HP.out _).mono ?_; rintro e w4 ⟨rfl, b4⟩; have H4 := H_ (A_ (HK.out.1.go b4) (HK.out.2.trans (b4.mono HK.out.2.size))); clear b4 d1; go_wp2_with fail; refine (HG.out _).mono ?_; rintro e w5 ⟨ov5, rfl, hr5, b5⟩; obtain ⟨sa5, sc5, rfl⟩ := hr5.form; obtain ⟨pc, pi, po, pd⟩ := P; unfold pkV
      dsimp only at HTK
      have b6 := b5.alloc b5.size (.cells #[.int .i64 pc, .int .i64 pi, .slice sa5 po.length sc5, .string pd] 59 (0, 0)); have x6 := at1 w5 (.cells #[.int .i64 pc, .int .i64 pi, .slice sa5 po.length sc5, .string pd] 59 (0, 0)); have H6 := H_ (A_ (H4.out.1.go b6) (A_ (H4.out.2.trans (b6.mono H4.out.2.size)) x6)); clear hr5 b5 b6 x6
      go_upto_region 14 with (fail)
      have HB1 := H_ H1.out
      by_cases c1 : er = 0
      . subst c1
        by_cases c2 : E = 0
        . subst c2
          by_cases c3 : n = 49185
          . subst c3
            by_cases c4 : pc = 2
            . subst c4; clear HTK HP HG HCH; go_wp2_with fail; refine (HA.out _).mono ?_; rintro e w7 ⟨rfl, b7⟩; have HB := H_ (H6.out.2.1.trans (b7.mono H6.out.2.1.size)); clear b7; go_wp2_with fail; go_ret; exact ⟨rfl, HB.out⟩
            . by_cases c5 : pc = 1
              . subst c5; clear HTK HP HG HCH; go_wp2_with fail; refine (HA.out _).mono ?_; rintro e w7 ⟨rfl, b7⟩; have HB := H_ (H6.out.2.1.trans (b7.mono H6.out.2.1.size)); clear b7; go_wp2_with fail; go_ret; exact ⟨rfl, HB.out⟩
              . have e4 : (pc == 2) = false := by simpa using c4
                have e5 : (pc == 1) = false := by simpa using c5
                have HT6 := H_ (HTK.out _ H6.out.1 (fun _ _ _ => ⟨c5, c4⟩)); have d6 := HCH.out _ H6.out.2.1; clear HTK HP HG HCH; go_wp2_with fail; refine HT6.out.mono ?_; rintro e w7 ⟨sa7, n7, sc7, rfl, h7⟩; obtain ⟨s7, st7, h71, h72⟩ := h7; have HS := H_ (fun W (h : Below w7.heap.size w7 W) => sState_at (h71.go h)); have HAD := H_ (fun W (h : Below w7.heap.size w7 W) => sAddr_at (h71.go h) (by omega)); have H7 := H_ (show Lo w1 w7 cfg25 K3 from ⟨s7, st7, h71, h72⟩); have HB7 := H_ (HB1.out.trans (h71.bl.mono HB1.out.size)); have hst : st7 = 0 \/ st7 = 1 := h72.elim .inl (fun h => .inr h.1); clear h71 h72 d6 HT6; have e1 := adNeq Ad.z Ad.z; rw [(adE_iff Ad.z Ad.z).2 rfl] at e1; have e1 : ∀ w, (binOp .neq 23 (.agg #[.int .u8 0, .int .u8 0, .int .u8 0, .int .u8 0]) (.agg #[.int .u8 0, .int .u8 0, .int .u8 0, .int .u8 0])).run Tryz.prog w = .ok (.bool false) w := e1
                rcases hst with rfl | rfl
                all_goals
                 go_wp2_with (first
                  | (go_at_call 15; refine (HS.out _ (Below.refl _ _)).mono ?_; rintro e w8 ⟨rfl, rfl⟩)
                  | (go_at_call 17; refine (HAD.out _ (Below.refl _ _)).mono ?_; rintro e w9 ⟨rfl, b9⟩; have H9 := H_ b9; clear b9))
                 go_roundg (len - (k + 1))
                 case measure => omega
                 case rel => exact ⟨k + 1, by omega, rfl, by go_num, H_ ⟨H7.out.go H9.out, HB7.out.trans (H9.out.mono HB7.out.size)⟩⟩
          . have e3 : (n == 49185) = false := by simpa using c3
            have HT6 := H_ (HTK.out _ H6.out.1 (fun _ _ h => absurd h c3)); have d6 := HCH.out _ H6.out.2.1; clear HTK HP HG HCH; go_wp2_with fail; refine HT6.out.mono ?_; rintro e w7 ⟨sa7, n7, sc7, rfl, h7⟩; obtain ⟨s7, st7, h71, h72⟩ := h7; have HS := H_ (fun W (h : Below w7.heap.size w7 W) => sState_at (h71.go h)); have HAD := H_ (fun W (h : Below w7.heap.size w7 W) => sAddr_at (h71.go h) (by omega)); have H7 := H_ (show Lo w1 w7 cfg25 K3 from ⟨s7, st7, h71, h72⟩); have HB7 := H_ (HB1.out.trans (h71.bl.mono HB1.out.size)); have hst : st7 = 0 \/ st7 = 1 := h72.elim .inl (fun h => .inr h.1); clear h71 h72 d6 HT6; have e1 := adNeq Ad.z Ad.z; rw [(adE_iff Ad.z Ad.z).2 rfl] at e1; have e1 : ∀ w, (binOp .neq 23 (.agg #[.int .u8 0, .int .u8 0, .int .u8 0, .int .u8 0]) (.agg #[.int .u8 0, .int .u8 0, .int .u8 0, .int .u8 0])).run Tryz.prog w = .ok (.bool false) w := e1
            rcases hst with rfl | rfl
            all_goals
             go_wp2_with (first
              | (go_at_call 15; refine (HS.out _ (Below.refl _ _)).mono ?_; rintro e w8 ⟨rfl, rfl⟩)
              | (go_at_call 17; refine (HAD.out _ (Below.refl _ _)).mono ?_; rintro e w9 ⟨rfl, b9⟩; have H9 := H_ b9; clear b9))
             go_roundg (len - (k + 1))
             case measure => omega
             case rel => exact ⟨k + 1, by omega, rfl, by go_num, H_ ⟨H7.out.go H9.out, HB7.out.trans (H9.out.mono HB7.out.size)⟩⟩
        . have e2 : (E == 0) = false := by simpa using c2
          have HT6 := H_ (HTK.out _ H6.out.1 (fun _ h => absurd h c2)); have d6 := HCH.out _ H6.out.2.1; clear HTK HP HG HCH; go_wp2_with fail; refine HT6.out.mono ?_; rintro e w7 ⟨sa7, n7, sc7, rfl, h7⟩; obtain ⟨s7, st7, h71, h72⟩ := h7; have HS := H_ (fun W (h : Below w7.heap.size w7 W) => sState_at (h71.go h)); have HAD := H_ (fun W (h : Below w7.heap.size w7 W) => sAddr_at (h71.go h) (by omega)); have H7 := H_ (show Lo w1 w7 cfg25 K3 from ⟨s7, st7, h71, h72⟩); have HB7 := H_ (HB1.out.trans (h71.bl.mono HB1.out.size)); have hst : st7 = 0 \/ st7 = 1 := h72.elim .inl (fun h => .inr h.1); clear h71 h72 d6 HT6; have e1 := adNeq Ad.z Ad.z; rw [(adE_iff Ad.z Ad.z).2 rfl] at e1; have e1 : ∀ w, (binOp .neq 23 (.agg #[.int .u8 0, .int .u8 0, .int .u8 0, .int .u8 0]) (.agg #[.int .u8 0, .int .u8 0, .int .u8 0, .int .u8 0])).run Tryz.prog w = .ok (.bool false) w := e1
          rcases hst with rfl | rfl
          all_goals
           go_wp2_with (first
            | (go_at_call 15; refine (HS.out _ (Below.refl _ _)).mono ?_; rintro e w8 ⟨rfl, rfl⟩)
            | (go_at_call 17; refine (HAD.out _ (Below.refl _ _)).mono ?_; rintro e w9 ⟨rfl, b9⟩; have H9 := H_ b9; clear b9))
           go_roundg (len - (k + 1))
           case measure => omega
           case rel => exact ⟨k + 1, by omega, rfl, by go_num, H_ ⟨H7.out.go H9.out, HB7.out.trans (H9.out.mono HB7.out.size)⟩⟩
      . have e0 : (er == 0) = false := by simpa using c1
        have HT6 := H_ (HTK.out _ H6.out.1 (fun h => absurd h c1)); have d6 := HCH.out _ H6.out.2.1; clear HTK HP HG HCH; go_wp2_with fail; refine HT6.out.mono ?_; rintro e w7 ⟨sa7, n7, sc7, rfl, h7⟩; obtain ⟨s7, st7, h71, h72⟩ := h7; have HS := H_ (fun W (h : Below w7.heap.size w7 W) => sState_at (h71.go h)); have HAD := H_ (fun W (h : Below w7.heap.size w7 W) => sAddr_at (h71.go h) (by omega)); have H7 := H_ (show Lo w1 w7 cfg25 K3 from ⟨s7, st7, h71, h72⟩); have HB7 := H_ (HB1.out.trans (h71.bl.mono HB1.out.size)); have hst : st7 = 0 \/ st7 = 1 := h72.elim .inl (fun h => .inr h.1); clear h71 h72 d6 HT6; have e1 := adNeq Ad.z Ad.z; rw [(adE_iff Ad.z Ad.z).2 rfl] at e1; have e1 : ∀ w, (binOp .neq 23 (.agg #[.int .u8 0, .int .u8 0, .int .u8 0, .int .u8 0]) (.agg #[.int .u8 0, .int .u8 0, .int .u8 0, .int .u8 0])).run Tryz.prog w = .ok (.bool false) w := e1
        rcases hst with rfl | rfl
        all_goals
         go_wp2_with (first
          | (go_at_call 15; refine (HS.out _ (Below.refl _ _)).mono ?_; rintro e w8 ⟨rfl, rfl⟩)
          | (go_at_call 17; refine (HAD.out _ (Below.refl _ _)).mono ?_; rintro e w9 ⟨rfl, b9⟩; have H9 := H_ b9; clear b9))
         go_roundg (len - (k + 1))
         case measure => omega
         case rel => exact ⟨k + 1, by omega, rfl, by go_num, H_ ⟨H7.out.go H9.out, HB7.out.trans (H9.out.mono HB7.out.size)⟩⟩
  . obtain rfl : len = k := by omega
    go_wp2_with fail; refine (HA.out _).mono ?_; rintro e w8 ⟨rfl, b8⟩; have HB := H_ (HK.out.2.trans (b8.mono HK.out.2.size)); clear b8; go_wp2_with fail; go_ret; exact ⟨rfl, HB.out⟩
end Go.Proofs.YtbiaempeegfdkaaGreat
