import Derived.Test.YtignponfoheaeaaGreatRAM
import Derived.Lib.QuietBelow
set_option linter.unusedVariables false
set_option linter.unusedSimpArgs false
set_option maxHeartbeats 16000000
namespace Go.Proofs.YtignponfoheaeaaGreat
open Go.RowKit Go.Tg Go.Maps
def Rl.val (r : Rl) : Value := .agg #[.int .i64 r.t, .int .i64 r.len, .int .i64 r.min, .int .i64 r.max, .string r.s]
set_option maxRecDepth 100000 in
theorem hasK_any (l : List Rl) (lv : Value) (ok : Nat -> Prop) (k : Int) (rb : Nat) (w : World) (hl : Rls w ok lv l) (hmax : l.length <= 1000000) (hr : w.cell? ⟨rb, 0, none⟩ = some lv) :
 Calls Tryz.prog 150 #[.int .i64 k, .pointer (some ⟨rb, 0, none⟩)] w fun e w' => e = .returned (.bool (findR l k).isSome) /\ Below w.heap.size w w' := by
 have HF := H_ (findR_any l lv ok k w hl hmax); generalize ruleOf l k = r at HF; obtain ⟨t, ln, mn, mx, sg⟩ := r; simp only at HF
 obtain ⟨sa, c, rfl, hc, hm⟩ := hl.form; clear hl; generalize (findR l k).isSome = bb at HF; go_enter Tryz.func150, Tryz.ntmps150; go_wp2_with fail; refine HF.out.mono ?_; rintro e w' ⟨rfl, hb⟩; go_wp2_with fail; go_ret; exact ⟨rfl, hb.alloc hb.size _⟩
set_option maxRecDepth 100000 in
theorem of_any (l : List Rl) (lv : Value) (ok : Nat -> Prop) (k : Int) (rb : Nat) (w : World) (hl : Rls w ok lv l) (hmax : l.length <= 1000000) (hr : w.cell? ⟨rb, 0, none⟩ = some lv) (hrb : rb < w.heap.size) :
 Calls Tryz.prog 147 #[.int .i64 k, .pointer (some ⟨rb, 0, none⟩)] w fun e w' => e = .returned (ruleOf l k).val /\ Below w.heap.size w w' := by
 have hb0 : Below w.heap.size w (w.alloc (.cells #[.int .i64 0, .int .i64 0, .int .i64 0, .int .i64 0, .string ⟨#[]⟩] 64 (0, 0))) := (Below.refl _ _).alloc (Nat.le_refl _) _; have HF := H_ (findR_any l lv ok k _ (hl.below hb0) hmax); have hr' := (hb0.cell (p := ⟨rb, 0, none⟩) hrb).trans hr; unfold Rl.val; generalize ruleOf l k = r at HF; obtain ⟨t, ln, mn, mx, sg⟩ := r; simp only at HF
 obtain ⟨sa, c, rfl, hc, hm⟩ := hl.form; generalize (findR l k).isSome = bb at HF; have HX := H_ (at1 w (.cells #[.int .i64 0, .int .i64 0, .int .i64 0, .int .i64 0, .string ⟨#[]⟩] 64 (0, 0))); have HB0 := H_ hb0; clear hl hb0 hr; go_enter Tryz.func147, Tryz.ntmps147; go_wp2_with fail; refine HF.out.mono ?_; rintro e w' ⟨rfl, hb⟩; have hx := (hb.block (w.heap.size) (by rw [alloc1]; omega)).trans HX.out; have HB := H_ (HB0.out.trans (hb.mono (by rw [alloc1]; omega))); have x0 : w'.cell? ⟨w.heap.size, 0, none⟩ = some _ := cellOf hx 0 _ rfl; have x1 : w'.cell? ⟨w.heap.size, 1, none⟩ = some _ := cellOf hx 1 _ rfl; have x2 : w'.cell? ⟨w.heap.size, 2, none⟩ = some _ := cellOf hx 2 _ rfl; have x3 : w'.cell? ⟨w.heap.size, 3, none⟩ = some _ := cellOf hx 3 _ rfl; have x4 : w'.cell? ⟨w.heap.size, 4, none⟩ = some _ := cellOf hx 4 _ rfl; have y0 := fzOf hx 0; have y1 := fzOf hx 1; have y2 := fzOf hx 2; have y3 := fzOf hx 3; have y4 := fzOf hx 4; have hxa := (Below.heap_alloc w' (.cells #[.int .i64 t, .int .i64 ln, .int .i64 mn, .int .i64 mx, .string sg] 64 (0, 0)) _ (Array.getElem?_eq_some_iff.1 hx).1).trans hx; have u0 : (w'.alloc (.cells #[.int .i64 t, .int .i64 ln, .int .i64 mn, .int .i64 mx, .string sg] 64 (0, 0))).cell? ⟨w.heap.size, 0, none⟩ = some (.int .i64 0) := cellOf hxa 0 _ rfl; have v0 : (w'.alloc (.cells #[.int .i64 t, .int .i64 ln, .int .i64 mn, .int .i64 mx, .string sg] 64 (0, 0))).frozen? ⟨w.heap.size, 0, none⟩ = false := fzOf hxa 0; have u1 : (w'.alloc (.cells #[.int .i64 t, .int .i64 ln, .int .i64 mn, .int .i64 mx, .string sg] 64 (0, 0))).cell? ⟨w.heap.size, 1, none⟩ = some (.int .i64 0) := cellOf hxa 1 _ rfl; have v1 : (w'.alloc (.cells #[.int .i64 t, .int .i64 ln, .int .i64 mn, .int .i64 mx, .string sg] 64 (0, 0))).frozen? ⟨w.heap.size, 1, none⟩ = false := fzOf hxa 1; have u2 : (w'.alloc (.cells #[.int .i64 t, .int .i64 ln, .int .i64 mn, .int .i64 mx, .string sg] 64 (0, 0))).cell? ⟨w.heap.size, 2, none⟩ = some (.int .i64 0) := cellOf hxa 2 _ rfl; have v2 : (w'.alloc (.cells #[.int .i64 t, .int .i64 ln, .int .i64 mn, .int .i64 mx, .string sg] 64 (0, 0))).frozen? ⟨w.heap.size, 2, none⟩ = false := fzOf hxa 2; have u3 : (w'.alloc (.cells #[.int .i64 t, .int .i64 ln, .int .i64 mn, .int .i64 mx, .string sg] 64 (0, 0))).cell? ⟨w.heap.size, 3, none⟩ = some (.int .i64 0) := cellOf hxa 3 _ rfl; have v3 : (w'.alloc (.cells #[.int .i64 t, .int .i64 ln, .int .i64 mn, .int .i64 mx, .string sg] 64 (0, 0))).frozen? ⟨w.heap.size, 3, none⟩ = false := fzOf hxa 3; have u4 : (w'.alloc (.cells #[.int .i64 t, .int .i64 ln, .int .i64 mn, .int .i64 mx, .string sg] 64 (0, 0))).cell? ⟨w.heap.size, 4, none⟩ = some (.string ⟨#[]⟩) := cellOf hxa 4 _ rfl; have v4 : (w'.alloc (.cells #[.int .i64 t, .int .i64 ln, .int .i64 mn, .int .i64 mx, .string sg] 64 (0, 0))).frozen? ⟨w.heap.size, 4, none⟩ = false := fzOf hxa 4; have HX2 := H_ hxa; clear hb hx hxa; go_wp2_with fail; have hF2 := set5 HX2.out (.int .i64 t) (.int .i64 ln) (.int .i64 mn) (.int .i64 mx) (.string sg); have hG := below5 (HB.out.alloc HB.out.size (.cells #[.int .i64 t, .int .i64 ln, .int .i64 mn, .int .i64 mx, .string sg] 64 (0, 0))) (Nat.le_refl w.heap.size) (b := w.heap.size) (.int .i64 t) (.int .i64 ln) (.int .i64 mn) (.int .i64 mx) (.string sg); generalize (((((((w'.alloc (.cells #[.int .i64 t, .int .i64 ln, .int .i64 mn, .int .i64 mx, .string sg] 64 (0, 0))).setCell ⟨w.heap.size, 0, none⟩ (.int .i64 t)).setCell ⟨w.heap.size, 1, none⟩ (.int .i64 ln)).setCell ⟨w.heap.size, 2, none⟩ (.int .i64 mn)).setCell ⟨w.heap.size, 3, none⟩ (.int .i64 mx)).setCell ⟨w.heap.size, 4, none⟩ (.string sg))) = WF at *; have z0 : WF.cell? ⟨w.heap.size, 0, none⟩ = some (.int .i64 t) := cellOf hF2 0 _ rfl; have z1 : WF.cell? ⟨w.heap.size, 1, none⟩ = some (.int .i64 ln) := cellOf hF2 1 _ rfl; have z2 : WF.cell? ⟨w.heap.size, 2, none⟩ = some (.int .i64 mn) := cellOf hF2 2 _ rfl; have z3 : WF.cell? ⟨w.heap.size, 3, none⟩ = some (.int .i64 mx) := cellOf hF2 3 _ rfl; have z4 : WF.cell? ⟨w.heap.size, 4, none⟩ = some (.string sg) := cellOf hF2 4 _ rfl; exact bodyPost_ret (v := .agg #[(.int .i64 t), (.int .i64 ln), (.int .i64 mn), (.int .i64 mx), (.string sg)]) (by simp [results, Tryz.results147, go_sem, z0, z1, z2, z3, z4]) rfl ⟨rfl, hG⟩
set_option maxRecDepth 100000 in
theorem instead_any (l : List Rl) (lv : Value) (ok : Nat -> Prop) (k : Int) (rb ob : Nat) (w : World) (hl : Rls w ok lv l) (hmax : l.length <= 1000000) (hr : w.cell? ⟨rb, 0, none⟩ = some lv) (hrb : rb < w.heap.size)
 (ho : w.cell? ⟨ob, 0, none⟩ = some (.func (.func 147) #[] #[.pointer (some ⟨rb, 0, none⟩)])) :
 Calls Tryz.prog 152 #[.int .i64 k, .pointer (some ⟨ob, 0, none⟩)] w fun e w' => e = .returned (.string (ruleOf l k).s) /\ Below w.heap.size w w' := by
 have HO := H_ (of_any l lv ok k rb w hl hmax hr hrb); generalize ruleOf l k = r at HO; obtain ⟨t, ln, mn, mx, sg⟩ := r; simp only [Rl.val] at HO ⊢; have hfld : ∀ w, (Instr.field 64 (.agg #[.int .i64 t, .int .i64 ln, .int .i64 mn, .int .i64 mx, .string sg]) 4).run Tryz.prog w = .ok (.string sg) w := fun _ => rfl; clear hl hr; go_enter Tryz.func152, Tryz.ntmps152; go_wp2_with fail; refine HO.out.mono ?_; rintro e w' ⟨rfl, hb⟩; go_wp2_with fail; go_ret; exact ⟨rfl, hb⟩
set_option maxRecDepth 100000 in
theorem fits3_any (l : List Rl) (lv : Value) (ok : Nat -> Prop) (o : Opt) (rb ob : Nat) (w : World) (hl : Rls w ok lv l) (hmax : l.length <= 1000000) (hr : w.cell? ⟨rb, 0, none⟩ = some lv) (hrb : rb < w.heap.size)
 (ho : w.cell? ⟨ob, 0, none⟩ = some (.func (.func 147) #[] #[.pointer (some ⟨rb, 0, none⟩)])) (hob : ob < w.heap.size) (hv : o.v.size <= 100000) :
 Calls Tryz.prog 151 #[.agg #[.int .i64 o.t, .string o.v], .pointer (some ⟨ob, 0, none⟩)] w fun e w' => e = .returned (.bool (fitsR (ruleOf l o.t) o.v)) /\ Below w.heap.size w w' := by
 obtain ⟨t, v⟩ := o; simp only at hv ⊢
 have hb0 : Below w.heap.size w (w.alloc (.cells #[.int .i64 t, .string v] 91 (0, 0))) := (Below.refl _ _).alloc (Nat.le_refl _) _; have hx := at1 w (.cells #[.int .i64 t, .string v] 91 (0, 0)); have x0 := cell_regrown (cellOf hx 0 _ rfl); have x1 := cell_regrown (cellOf hx 1 _ rfl); have x2 := cell_regrown ((hb0.cell (p := ⟨ob, 0, none⟩) hob).trans ho); have HO := H_ (fun d os => of_any l lv ok t rb _ (hl.below (hb0.trans ((below_regrown _ d os).mono (by rw [alloc1]; omega)))) hmax ((((below_regrown _ d os).cell (p := ⟨rb, 0, none⟩) (by show rb < _; rw [alloc1]; omega)).trans (hb0.cell (p := ⟨rb, 0, none⟩) hrb)).trans hr) (Nat.lt_of_lt_of_le hrb (hb0.trans ((below_regrown _ d os).mono (by rw [alloc1]; omega))).size)); generalize ruleOf l t = r at HO ⊢; have HF := H_ (fun w => fits_any r v w hv); obtain ⟨rt, ln, mn, mx, sg⟩ := r; simp only [Rl.val] at HO HF ⊢; have HB0 := H_ hb0; clear hl hr hb0 hx ho; go_enter Tryz.func151, Tryz.ntmps151; go_wp2_with fail; refine wp_region_quiet_below (by kernel_rfl) (by kernel_rfl) ?_
 repeat (quiet_step (first | (go_at_call 147; exact Calls.regrown_of (HO.out _ _)) | (go_at_call 31; exact Calls.regrown_of (HF.out _))))
 refine wpQuiet_nil ?_; rintro _ ⟨⟨nq, osq⟩, rfl⟩; have HB := H_ (HB0.out.trans ((below_regrown _ nq osq).mono (by rw [alloc1]; omega))); go_wp2_with fail; go_ret; exact ⟨rfl, HB.out⟩
def I64 (n : Int) : Prop := (Lit.int .i64 n).wf = true
theorem kvI {t : Int} (h : I64 t) : KV Tryz.prog 3 (.int .i64 t) := ⟨_, keyOf_int_mk Tryz.underlying3 h⟩
theorem keyedI : Keyed Tryz.prog 3 := int_keyed Tryz.underlying3
open Classical in
noncomputable def seenF (pre : List Opt) : Value -> Option Value := fun x => if ∃ o ∈ pre, x = .int .i64 o.t then some (.agg #[]) else none
theorem seenF_nil : seenF [] = fun _ => none := by funext x; simp [seenF]
theorem seenF_snoc (pre : List Opt) (o : Opt) (x : Value) : seenF (pre ++ [o]) x = upd (seenF pre) (.int .i64 o.t) (.agg #[]) x := by
 by_cases hx : x = .int .i64 o.t
 . subst hx; rw [upd_same]; unfold seenF; rw [if_pos ⟨o, by simp, rfl⟩]
 . rw [upd_other _ _ hx]; unfold seenF
   congr 1
   simp only [List.mem_append, List.mem_singleton, eq_iff_iff]
   constructor
   . rintro ⟨y, hy | rfl, h⟩
     . exact ⟨y, hy, h⟩
     . exact absurd h hx
   . rintro ⟨y, hy, h⟩; exact ⟨y, Or.inl hy, h⟩
theorem seenF_at (pre : List Opt) (k : Int) : seenF pre (.int .i64 k) = if pre.any (fun x => x.t == k) then some (.agg #[]) else none := by
 unfold seenF
 congr 1
 simp only [List.any_eq_true, beq_iff_eq, eq_iff_iff, Value.int.injEq, true_and]
 constructor
 . rintro ⟨y, hy, h⟩; exact ⟨y, hy, h.symm⟩
 . rintro ⟨y, hy, h⟩; exact ⟨y, hy, h.symm⟩
def AnsI (w W : World) (r : Value) (row pre : List Opt) : Prop := ORow W w.heap.size r row /\ MapAt Tryz.prog 3 W w.heap.size (seenF pre) /\ (∀ b, r.ownBlock = some b -> w.heap.size < b) /\ Below w.heap.size w W
theorem AnsI.below {w W W' : World} {r : Value} {row pre : List Opt} (h : AnsI w W r row pre) (hb : Below W.heap.size W W') : AnsI w W' r row pre :=
 ⟨h.1.below hb, h.2.1.same (hb.block _ h.2.1.lt), h.2.2.1, h.2.2.2.trans (hb.mono h.2.2.2.size)⟩
theorem AnsI.app {w W W' : World} {r : Value} {row row' pre : List Opt} {g n cap : Nat} (h : AnsI w W r row pre) (hrow : ORow W' w.heap.size (.slice (some ⟨g, 0, none⟩) n cap) row') (hk : Keep (fun k => r.ownBlock = some k) W W')
 (hg : r.ownBlock = some g \/ g = W.heap.size) : AnsI w W' (.slice (some ⟨g, 0, none⟩) n cap) row' pre := by
 refine ⟨hrow, h.2.1.keep hk (fun e => Nat.lt_irrefl _ (h.2.2.1 _ e)), ?_, h.2.2.2.trans (hk.below h.2.2.2.size (fun k hk e => Nat.lt_asymm hk (h.2.2.1 _ e)))⟩; intro b hb; obtain rfl : g = b := by simpa [Value.ownBlock] using hb
 rcases hg with hg | hg
 . exact h.2.2.1 _ hg
 . have := h.2.1.lt; omega
theorem AnsI.upd {w W : World} {r : Value} {row pre : List Opt} (h : AnsI w W r row pre) (o : Opt) (ho : I64 o.t) :
 ∃ ob, (Instr.mapUpdate 287 (.map (some w.heap.size)) (.int .i64 o.t) (.agg #[])).run Tryz.prog W = .ok () (ChangeMaps.setBlock W w.heap.size ob) /\ AnsI w (ChangeMaps.setBlock W w.heap.size ob) r row (pre ++ [o]) := by
 obtain ⟨es, cl, h1, h2⟩ := h.2.1.run_update keyedI Tryz.underlying287 (kvI ho) (.agg #[]); have hk : Keep (· = w.heap.size) W (ChangeMaps.setBlock W w.heap.size (.map es cl)) := (Keep.refl (· = w.heap.size) W).setBlock w.heap.size (Or.inr rfl) _; refine ⟨_, h1, h.1.keep hk ?_, h2.congr (fun k => seenF_snoc _ _ _), h.2.2.1, h.2.2.2.trans (hk.below h.2.2.2.size (fun k hk e => by omega))⟩; rintro k e rfl; exact Nat.lt_irrefl _ (h.2.2.1 _ e)
set_option maxRecDepth 100000 in
theorem answer_any (l : List Opt) (lv : Value) (ok : Nat -> Prop) (w : World) (hl : Opts w ok lv l) (hmax : l.length <= 1000000) (hwf : ∀ o ∈ l, I64 o.t)
 (gh gf gi : Nat) (bh bf bi : Array Value) (has : Int -> Bool) (fits : Opt -> Bool) (inst : Int -> ByteArray)
 (eh : ∀ args w, (callFunc gh args).run Tryz.prog w = .ok (.enter gh args) w) (ef : ∀ args w, (callFunc gf args).run Tryz.prog w = .ok (.enter gf args) w) (ei : ∀ args w, (callFunc gi args).run Tryz.prog w = .ok (.enter gi args) w)
 (hh : ∀ (W : World) (o : Opt), o ∈ l -> Below w.heap.size w W -> Calls Tryz.prog gh (#[.int .i64 o.t] ++ bh) W fun e w' => e = .returned (.bool (has o.t)) /\ Below W.heap.size W w')
 (hf : ∀ (W : World) (o : Opt), o ∈ l -> Below w.heap.size w W -> Calls Tryz.prog gf (#[.agg #[.int .i64 o.t, .string o.v]] ++ bf) W fun e w' => e = .returned (.bool (fits o)) /\ Below W.heap.size W w')
 (hi : ∀ (W : World) (o : Opt), o ∈ l -> Below w.heap.size w W -> Calls Tryz.prog gi (#[.int .i64 o.t] ++ bi) W fun e w' => e = .returned (.string (inst o.t)) /\ Below W.heap.size W w') :
 Calls Tryz.prog 149 #[lv, .func (.func gh) #[] bh, .func (.func gf) #[] bf, .func (.func gi) #[] bi] w fun e w' =>
  ∃ v, e = .returned (.tuple #[.int .i64 (answerS has fits inst l).1, v]) /\ ORow w' w.heap.size v (answerS has fits inst l).2 /\ Below w.heap.size w w' := by
 obtain ⟨sa, c, rfl, hc, hm⟩ := hl.form; have HL := H_ hl; have HH := H_ hh; have HF := H_ hf; have HI := H_ hi; have HWF := H_ hwf; obtain ⟨len, hln⟩ : ∃ len, len = l.length := ⟨_, rfl⟩; have HLN := H_ hln; have hmm := @run_makeMap Tryz.prog; rw [<- hln] at hc hmax ⊢; unfold maxLen at hm; clear hl hh hf hi hwf hln; go_enter Tryz.func149, Tryz.ntmps149; go_wp2_with fail
 go_loopg [10, 22] len (fun x r i wr => ∃ k : Nat, k <= len /\ x = len - k /\ i = .int .i64 k /\
  Hid (AnsI w wr r (rejP has [] (l.take k)) (l.take k)))
 case atStart =>
  refine ⟨0, by omega, by omega, rfl, ORow.nil _ _, ?_, (by intro b hb; cases hb), (Below.refl _ _).alloc (Nat.le_refl _) _⟩; rw [List.take_zero, seenF_nil]; exact MapAt.empty _
 case round =>
  obtain ⟨k, hk, rfl, rfl, hK⟩ := hrel; have HK := H_ hK.out; clear hK
  by_cases hkl : k < len
  . have hkl' : k < l.length := by have := HLN.out; omega
    obtain ⟨b, off, rfl, hb, -, -, -, -, c0, c1⟩ := HL.out.at k hkl'; have d0 : wr.cell? ⟨b, off + k * 2, none⟩ = _ := (HK.out.2.2.2.cell (p := ⟨b, off + k * 2, none⟩) hb).trans c0; have d1 : wr.cell? ⟨b, off + k * 2 + 1, none⟩ = _ := (HK.out.2.2.2.cell (p := ⟨b, off + k * 2 + 1, none⟩) hb).trans c1; have hwm : w.heap.size < wr.heap.size := HK.out.2.1.lt; have HO := H_ (List.getElem_mem hkl'); have HT := H_ (show l.take (k + 1) = l.take k ++ [l[k]] from by rw [List.take_succ_eq_append_getElem hkl']); clear c0 c1; generalize l[k] = o at *; have hwo := HWF.out o HO.out; have hzu : ∀ w, (zeroValue 288).run Tryz.prog w = .ok (.agg #[]) w := fun w => by kernel_rfl
    have hlk := (HK.out.2.1.same (w' := wr.alloc (.cells #[.int .i64 o.t, .string o.v] 91 (0, 0))) (Below.heap_alloc _ _ _ hwm)).run_lookup keyedI Tryz.underlying287 (kvI hwo) (hzu _) true; rw [seenF_at] at hlk; have HR := H_ (show rejP has [] (l.take (k + 1)) = rejP has [] (l.take k) ++ (if rejOne has (l.take k) o then [o] else []) from by rw [HT.out, rejP_snoc, List.nil_append]); unfold rejOne at HR; generalize hhad : (l.take k).any (fun x => x.t == o.t) = had at hlk HR; clear hhad hzu hwm; obtain ⟨t, v⟩ := o; simp only at d0 d1 hlk HR hwo
    have hlen : (rejP has [] (l.take k)).length <= 1000000 := by
     have := rejP_len has (l.take k) []; rw [List.length_take] at this; omega
    generalize hrow : rejP has [] (l.take k) = row at HK HR hlen; have HX := H_ ((((Below.refl wr.heap.size wr).alloc (Nat.le_refl _) (.cells #[.int .i64 t, .string v] 91 (0, 0)))).alloc (by rw [alloc1]; omega) (.cells #[] 288 (0, 0))); have hx0 := (Below.heap_alloc (wr.alloc (.cells #[.int .i64 t, .string v] 91 (0, 0))) (.cells #[] 288 (0, 0)) wr.heap.size (by rw [alloc1]; omega)).trans (at1 wr (.cells #[.int .i64 t, .string v] 91 (0, 0))); have HX0 := H_ hx0; clear hx0 hrow
    cases had with
    | true =>
     simp only [if_pos, Option.getD, Option.isSome] at hlk; have hK2 := HK.out.below HX.out; have hsz : ((wr.alloc (.cells #[.int .i64 t, .string v] 91 (0, 0))).alloc (.cells #[] 288 (0, 0))).heap.size = wr.heap.size + 1 + 1 := alloc2 _ _ _; have hxn := at1 ((wr.alloc (.cells #[.int .i64 t, .string v] 91 (0, 0))).alloc (.cells #[] 288 (0, 0))) (.cells #[.int .i64 t, .string v] 91 (0, 0)); have hK3 := hK2.below ((Below.refl _ _).alloc (Nat.le_refl _) (.cells #[.int .i64 t, .string v] 91 (0, 0))); have hx3 := (Below.heap_alloc ((wr.alloc (.cells #[.int .i64 t, .string v] 91 (0, 0))).alloc (.cells #[] 288 (0, 0))) (.cells #[.int .i64 t, .string v] 91 (0, 0)) wr.heap.size (by rw [alloc2]; omega)).trans HX0.out; rw [hsz] at hxn; have HK3 := H_ hK3; have HXN := H_ hxn; have HX3 := H_ (A_ hx3 hK3.2.2.2.size); clear hK2 hK3 hx3 hxn hsz
     go_wp2_with (at_builtin; refine wpl_append_opt rfl _ _ rfl _ row rfl HK3.out.1 _ 1 t v rfl HXN.out hlen HX3.out.2 ?_)
     intro g cap w5 hr5 hk5 hg5; have hne : ¬ u10.ownBlock = some wr.heap.size := fun e => Nat.lt_irrefl _ (HK.out.1.lt _ e).1; have e0 : w5.cell? ⟨wr.heap.size, 0, none⟩ = some (.int .i64 t) := cellOf ((hk5.block wr.heap.size (by rw [alloc1, alloc2]; omega) hne).trans HX3.out.1) 0 _ rfl; obtain ⟨ob, hup, hA⟩ := (HK3.out.app hr5 hk5 (by rw [alloc1, alloc2]; exact hg5)).upd ⟨t, v⟩ hwo; have HA := H_ hA; clear hA hr5 hk5 hg5 hne; go_wp2_with fail
     go_roundg (len - (k + 1))
     case measure => omega
     case rel => exact ⟨k + 1, by omega, rfl, by go_num, by rw [HR.out, HT.out]; exact HA.out⟩
    | false =>
     simp only [Option.getD, Option.isSome] at hlk; have hK2 := HK.out.below HX.out; have hcall := HH.out _ ⟨t, v⟩ HO.out hK2.2.2.2; simp only at hcall
     have HK2 := H_ hK2; clear hK2; generalize has t = bb at hcall HR
     cases bb with
     | true =>
      go_wp2_with (
       go_at_fn gh; refine hcall.mono ?_; rintro e w5 ⟨rfl, hb5⟩
       have e0 : w5.cell? ⟨wr.heap.size, 0, none⟩ = some (.int .i64 t) := cellOf ((hb5.block wr.heap.size (by rw [alloc2]; omega)).trans HX0.out) 0 _ rfl; obtain ⟨ob, hup, hA⟩ := (HK2.out.below hb5).upd ⟨t, v⟩ hwo; have HA := H_ hA
       clear hA hb5)
      go_roundg (len - (k + 1))
      case measure => omega
      case rel => exact ⟨k + 1, by omega, rfl, by go_num, by rw [HR.out, HT.out, if_neg (by decide), List.append_nil]; exact HA.out⟩
     | false =>
      go_wp2_with (first
       | (
        go_at_fn gh; refine hcall.mono ?_; rintro e w5 ⟨rfl, hb5⟩
        have hx5 := (hb5.block wr.heap.size (by rw [alloc2]; omega)).trans HX0.out; have c50 : w5.cell? ⟨wr.heap.size, 0, none⟩ = some (.int .i64 t) := cellOf hx5 0 _ rfl; have c51 : w5.cell? ⟨wr.heap.size, 1, none⟩ = some (.string v) := cellOf hx5 1 _ rfl; have hK3 := (HK2.out.below hb5).below ((Below.refl _ _).alloc (Nat.le_refl _) (.cells #[.int .i64 t, .string v] 91 (0, 0))); have hlt5 : wr.heap.size < w5.heap.size := (Array.getElem?_eq_some_iff.1 hx5).1; have hx3 := (Below.heap_alloc w5 (.cells #[.int .i64 t, .string v] 91 (0, 0)) wr.heap.size hlt5).trans hx5; have hxn := at1 w5 (.cells #[.int .i64 t, .string v] 91 (0, 0)); have HK3 := H_ hK3; have HXN := H_ hxn; have HX3 := H_ (A_ hx3 (A_ hK3.2.2.2.size hlt5))
        clear hK3 hx3 hxn hx5 hb5 hlt5)
       | (
        at_builtin; refine wpl_append_opt rfl _ _ rfl _ row rfl HK3.out.1 _ 1 t v rfl HXN.out hlen HX3.out.2.1 ?_
        intro g cap w6 hr5 hk5 hg5; have hne : ¬ u10.ownBlock = some wr.heap.size := fun e => Nat.lt_irrefl _ (HK.out.1.lt _ e).1; have e0 : w6.cell? ⟨wr.heap.size, 0, none⟩ = some (.int .i64 t) := cellOf ((hk5.block wr.heap.size (by rw [alloc1]; have := HX3.out.2.2; omega) hne).trans HX3.out.1) 0 _ rfl; obtain ⟨ob, hup, hA⟩ := (HK3.out.app hr5 hk5 hg5).upd ⟨t, v⟩ hwo; have HA := H_ hA
        clear hA hr5 hk5 hg5 hne))
      go_roundg (len - (k + 1))
      case measure => omega
      case rel => exact ⟨k + 1, by omega, rfl, by go_num, by have hA' := HA.out; rw [List.length_append] at hA'; rw [HR.out, HT.out, if_pos (by decide)]; exact hA'⟩
  . obtain rfl : len = k := by omega
    have HQ := H_ (show l.take len = l from List.take_of_length_le (by have := HLN.out; omega)); rw [HQ.out] at HK
    by_cases hz : (rejP has [] l).length = 0
    . have HAS := H_ (show answerS has fits inst l = if (nakP fits inst l).length ≠ 0 then (3, nakP fits inst l) else (2, l) from by unfold answerS; rw [if_neg (by omega)]); obtain ⟨ra, rc, hr⟩ := HK.out.1.form; rw [hz] at hr; subst hr; have HB1 := H_ HK.out.2.2.2; clear hz; go_wp2_with fail
      go_loopg [11, 56] len (fun x r i wr => ∃ k : Nat, k <= len /\ x = len - k /\ i = .int .i64 k /\ Hid (ORow wr w.heap.size r (nakP fits inst (l.take k)) /\ Below w.heap.size w wr))
      case atStart => exact ⟨0, by omega, by omega, rfl, ORow.nil _ _, HB1.out⟩
      case round =>
       obtain ⟨k, hk, rfl, rfl, hK⟩ := hrel; have HK := H_ hK.out; clear hK
       by_cases hkl : k < len
       . have hkl' : k < l.length := by have := HLN.out; omega
         obtain ⟨b, off, rfl, hb, -, -, -, -, c0, c1⟩ := HL.out.at k hkl'; have d0 : wr.cell? ⟨b, off + k * 2, none⟩ = _ := (HK.out.2.cell (p := ⟨b, off + k * 2, none⟩) hb).trans c0; have d1 : wr.cell? ⟨b, off + k * 2 + 1, none⟩ = _ := (HK.out.2.cell (p := ⟨b, off + k * 2 + 1, none⟩) hb).trans c1; have HO := H_ (List.getElem_mem hkl'); have HT := H_ (show nakP fits inst (l.take (k + 1)) = nakP fits inst (l.take k) ++ (if fits l[k] then [] else [⟨l[k].t, inst l[k].t⟩]) from by rw [List.take_succ_eq_append_getElem hkl', nakP_snoc])
         have hlen : (nakP fits inst (l.take k)).length <= 1000000 := by
          have := nakP_len fits inst (l.take k); rw [List.length_take] at this; omega
         clear c0 c1; generalize nakP fits inst (l.take k) = row at *; generalize l[k] = o at *; obtain ⟨t, v⟩ := o; simp only at d0 d1 HT
         have hbx := (Below.refl wr.heap.size wr).alloc (Nat.le_refl _) (.cells #[.int .i64 t, .string v] 91 (0, 0)); have hx0 := at1 wr (.cells #[.int .i64 t, .string v] 91 (0, 0)); have hcall := HF.out _ ⟨t, v⟩ HO.out (HK.out.2.trans (hbx.mono HK.out.2.size)); simp only at hcall
         have HX := H_ (A_ hbx hx0); clear hbx hx0; generalize fits ⟨t, v⟩ = bb at hcall HT
         cases bb with
         | true =>
          go_wp2_with (
           go_at_fn gf; refine hcall.mono ?_; rintro e w5 ⟨rfl, hb5⟩
           have HB5 := H_ (HX.out.1.trans (hb5.mono (by rw [alloc1]; omega)))
           clear hb5)
          go_roundg (len - (k + 1))
          case measure => omega
          case rel => exact ⟨k + 1, by omega, rfl, by go_num, by rw [HT.out, if_pos trivial, List.append_nil]; exact ⟨HK.out.1.below HB5.out, HK.out.2.trans (HB5.out.mono HK.out.2.size)⟩⟩
         | false =>
          have HII := H_ (fun W hW => HI.out W ⟨t, v⟩ HO.out hW); simp only at HII
          generalize inst t = it at HII HT
          go_wp2_with (
           go_at_fn gf; refine hcall.mono ?_; rintro e w5 ⟨rfl, hb5⟩
           have hx5 := (hb5.block wr.heap.size (by rw [alloc1]; omega)).trans HX.out.2; have hbw5 := HX.out.1.trans (hb5.mono (by rw [alloc1]; omega)); have HB5 := H_ (A_ hbw5 hx5); have e50 : w5.cell? ⟨wr.heap.size, 0, none⟩ = some (.int .i64 t) := cellOf hx5 0 _ rfl; have hci := HII.out w5.drew (HK.out.2.trans ((hbw5.mono HK.out.2.size).drew))
           clear hb5 hx5 hbw5)
          have HZ : Hid (∀ w6, Below w5.drew.heap.size w5.drew w6 -> w6.cell? ⟨wr.heap.size, 0, none⟩ = some (.int .i64 t) /\ Hid (ORow (w6.alloc (.cells #[.int .i64 t, .string it] 91 (0, 0))) w.heap.size u11 row /\
           (w6.alloc (.cells #[.int .i64 t, .string it] 91 (0, 0))).heap[w6.heap.size]? = some (.cells #[.int .i64 t, .string it] 91 (0, 0)) /\ w.heap.size <= (w6.alloc (.cells #[.int .i64 t, .string it] 91 (0, 0))).heap.size /\
           Below w.heap.size w (w6.alloc (.cells #[.int .i64 t, .string it] 91 (0, 0))))) := H_ (by
           intro w6 hb6; have hlt5 : wr.heap.size < w5.heap.size := (Array.getElem?_eq_some_iff.1 HB5.out.2).1; have hB : Below wr.heap.size wr (w6.alloc (.cells #[.int .i64 t, .string it] 91 (0, 0))) := (HB5.out.1.drew.trans (hb6.mono (by exact Nat.le_of_lt hlt5))).alloc (Nat.le_trans (Nat.le_of_lt hlt5) hb6.size) _; have hBw := HK.out.2.trans (hB.mono HK.out.2.size)
           exact ⟨cellOf ((hb6.block wr.heap.size hlt5).trans HB5.out.2) 0 _ rfl, HK.out.1.below hB, at1 _ _, hBw.size, hBw⟩)
          go_region_law (first
           | (go_simp; go_at_fn gi; refine hci.mono ?_; rintro e w6 ⟨rfl, hb6⟩; obtain ⟨e60, HB6⟩ := HZ.out w6 hb6; clear hb6)
           | (refine step_append_opt rfl (.tmp 64) (.tmp 72) rfl u11 row rfl HB6.out.1 _ 1 t it rfl HB6.out.2.1 hlen HB6.out.2.2.1 ?_; intro g cap w7 hr7 hk7 hg7; have H7 := H_ (A_ hr7 hk7); clear hr7 hk7 hg7))
          all_goals (
           go_wp2_with fail
           go_roundg (len - (k + 1))
           case measure => omega
           case rel =>
            refine ⟨k + 1, by omega, rfl, by go_num, ?_⟩; rw [HT.out, if_neg (by simp)]; have hr7 := H7.out.1; rw [List.length_append] at hr7
            exact ⟨hr7, HB6.out.2.2.2.trans (H7.out.2.below HB6.out.2.2.1 (fun q hq e => Nat.lt_irrefl _ (Nat.lt_of_lt_of_le hq (HK.out.1.lt _ e).2)))⟩)
       . obtain rfl : len = k := by omega
         rw [HQ.out] at HK
         by_cases hz : (nakP fits inst l).length = 0
         . have HA2 := H_ (show answerS has fits inst l = (2, l) from by rw [HAS.out, if_neg (by omega)]); obtain ⟨ra, rc, hr⟩ := HK.out.1.form; rw [hz] at hr; subst hr; have HC := H_ (clone_any l (.slice sa len c) ok wr (by have := HL.out.below HK.out.2; rwa [<- HLN.out] at this) (by rw [<- HLN.out]; exact hmax)); go_wp2_with fail; refine HC.out.mono ?_; rintro e w6 ⟨cv, rfl, hrow, hbc⟩; have H6 := H_ (A_ hrow hbc); clear hrow hbc; go_wp2_with fail; go_ret2; have hrow := H6.out.1; refine ⟨_, by rw [HA2.out]; rfl, ?_, HK.out.2.trans (H6.out.2.mono HK.out.2.size)⟩; rw [HA2.out]; exact hrow.base HK.out.2.size
         . have HA2 := H_ (show answerS has fits inst l = (3, nakP fits inst l) from by rw [HAS.out, if_pos hz]); obtain ⟨ra, rc, hr⟩ := HK.out.1.form; generalize nakP fits inst l = row at *; subst hr; have hd : decide ((0 : Int) < (row.length : Int)) = true := by simpa using Nat.pos_of_ne_zero hz
           go_wp2_with fail; go_ret2; exact ⟨_, by rw [HA2.out]; rfl, by rw [HA2.out]; exact HK.out.1, HK.out.2⟩
    . have HAS := H_ (show answerS has fits inst l = (4, rejP has [] l) from by unfold answerS; rw [if_pos hz]); obtain ⟨ra, rc, hr⟩ := HK.out.1.form; generalize rejP has [] l = row at *; subst hr; have hd : decide ((0 : Int) < (row.length : Int)) = true := by simpa using Nat.pos_of_ne_zero hz
      go_wp2_with fail; go_ret2; exact ⟨_, by rw [HAS.out]; rfl, by rw [HAS.out]; exact HK.out.1, HK.out.2.2.2⟩
end Go.Proofs.YtignponfoheaeaaGreat
