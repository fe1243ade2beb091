import Derived.Test.YtoblffnlopmebaaGreatQAY
import Derived.Deep.Heap
import Derived.Test.YtoblffnlopmebaaGreatQAJ
import Derived.Lib.QuietBelow
import Derived.Test.YtoblffnlopmebaaGreatQAU
set_option linter.unusedVariables false
set_option linter.unusedSimpArgs false
set_option maxHeartbeats 16000000
namespace Go.Proofs.YtoblffnlopmebaaGreat
open Go.RowKit Go.Tg Go.Maps
theorem keepSet (w : World) (lb i : Nat) (v : Value) : Keep (fun x => x = lb) w (w.setCell ⟨lb, i, none⟩ v) := Keep.setCell (S := fun x => x = lb) (Keep.refl _ w) ⟨lb, i, none⟩ (Or.inr rfl) v
def ptL (l : List Nat) : List (List Value) := l.map fun b => [.pointer (some ⟨b, 0, none⟩)]
theorem ptL_len (l : List Nat) : (ptL l).length = l.length := by simp [ptL]
theorem ptL_app (a b : List Nat) : (ptL (a ++ b)).flatten = (ptL a).flatten ++ (ptL b).flatten := by simp [ptL]
theorem ptL_k (l : List Nat) : ∀ x ∈ ptL l, x.length = 1 := by
 intro x hx; simp only [ptL, List.mem_map] at hx; obtain ⟨o, _, rfl⟩ := hx; rfl
def PtRow (w : World) (B : Nat) (v : Value) (l : List Nat) : Prop := w.ownsRow B 69 1 v l.length (ptL l).flatten
theorem PtRow.nil (w : World) (B : Nat) : PtRow w B (.slice none 0 0) [] := World.ownsRow_nil _ _ _ _
theorem PtRow.keep {w w' : World} {B : Nat} {v : Value} {l : List Nat} {T : Nat -> Prop} (h : PtRow w B v l) (hk : Keep T w w') (hT : ∀ k, v.ownBlock = some k -> ¬ T k) : PtRow w' B v l := by
 obtain ⟨h0, h | ⟨g, cap, cur, hv, h1, h2, h3⟩⟩ := h
 . exact ⟨h0, Or.inl h⟩
 . have hlt := (Array.getElem?_eq_some_iff.1 h2).1; exact ⟨h0, Or.inr ⟨g, cap, cur, hv, h1, (hk.block g hlt (hT g (by rw [hv]; rfl))).trans h2, h3⟩⟩
theorem PtRow.below {w w' : World} {B : Nat} {v : Value} {l : List Nat} (h : PtRow w B v l) (hb : Below w.heap.size w w') : PtRow w' B v l := h.keep (Keep.of_below (fun _ => False) hb) (fun _ _ h => h)
theorem PtRow.lt {w : World} {B : Nat} {v : Value} {l : List Nat} (h : PtRow w B v l) : ∀ k, v.ownBlock = some k -> k < w.heap.size /\ B <= k := by
 intro k hk; have := World.ownsRow.lt h k hk; exact ⟨this.2, this.1⟩
theorem PtRow.form {w : World} {B : Nat} {v : Value} {l : List Nat} (h : PtRow w B v l) : ∃ sa sc, v = .slice sa l.length sc := by
 obtain ⟨_, ⟨h, hn⟩ | ⟨g, cp, cur, hv, _⟩⟩ := h
 . exact ⟨none, 0, by rw [h, hn]⟩
 . exact ⟨_, _, hv⟩
theorem PtRow.ne {w : World} {B b : Nat} {v : Value} {l : List Nat} {cs : Array Value} (h : PtRow w B v l) (hb : w.heap[b]? = some (.cells cs 71 (0, 0))) : ¬ v.ownBlock = some b := by
 intro he; obtain ⟨_, ⟨h, hn⟩ | ⟨g, cp, cur, hv, h1, h2, h3⟩⟩ := h
 . rw [h] at he; cases he
 . rw [hv] at he; obtain rfl : g = b := by simpa [Value.ownBlock] using he
   rw [hb] at h2; have := Option.some.inj h2
   injection this with _ h5 _
   exact absurd h5 (by decide)
theorem pt_info : ∃ i z, Tryz.prog.info? 69 = some i /\ i.zero = some z /\ i.size = 1 /\ i.bytes = 8 /\ z.cells.size = 1 := by
 have h : (Tryz.prog.info? 69).map (fun i => (i.zero, i.size, i.bytes)) = some (some (.pointer none), 1, 8) := by kernel_rfl
 obtain ⟨i, hi, he⟩ := Option.map_eq_some_iff.1 h; simp only [Prod.mk.injEq] at he; exact ⟨i, _, hi, he.1, he.2.1, he.2.2, rfl⟩
def svC (s : Sv) : Array Value := #[.int .i64 s.node, .string s.secret, .string s.realm, .pointer none, .bool false, .int .i64 0]
def LaC.bare (c : LaC) : LaC := { c with sva := none, svl := 0, svc := 0, srva := none, srvl := 0, srvc := 0 }
structure LC (w : World) (c : LaC) (l : List Sv) (lb tb cb lm : Nat) (ps : List Nat) (pv : Value) (now : Int) : Prop where
 x : w.heap[lb]? = some (.cells (lCells c tb (.pointer (some ⟨cb, 0, none⟩)) pv (.map (some lm)) now 0 0 0 (.slice none 0 0) (.slice none 0 0)) 57 (0, 0))
 m : w.heap[lm]? = some (.map #[] 0)
 r : Rec 1 w (fun b => b ≠ lb) pv (ptL ps)
 n : ps.length = l.length
 s : ∀ b ∈ ps, b ≠ lb /\ ∃ s : Sv, w.heap[b]? = some (.cells (svC s) 71 (0, 0))
 d : lm ≠ lb
theorem LC.keep {w w' : World} {c : LaC} {l : List Sv} {lb tb cb lm : Nat} {ps : List Nat} {pv : Value} {now : Int} (h : LC w c l lb tb cb lm ps pv now) (b : Below w.heap.size w w') : LC w' c l lb tb cb lm ps pv now := by
 have up : ∀ {k o}, w.heap[k]? = some o -> w'.heap[k]? = w.heap[k]? := fun hk => b.block _ (Array.getElem?_eq_some_iff.1 hk).1; exact ⟨(up h.x).trans h.x, (up h.m).trans h.m, Rec.keep h.r (Keep.of_below (fun _ => False) b) (fun _ _ _ h => h), h.n, fun b hb => ⟨(h.s b hb).1, by obtain ⟨s, hs⟩ := (h.s b hb).2; exact ⟨s, (up hs).trans hs⟩⟩, h.d⟩
def LGood (c : LaC) (l : List Sv) (ls : List ByteArray) : Prop := rightB c l = true /\ AcOk c.name ls c.most /\ c.l.Ok /\ (c.name.size <= 60 /\ 0 <= c.rt /\ c.rt <= 10 /\ 1 <= c.wt /\ c.wt <= 100) /\ ∀ s ∈ l, TunOk c.name s.secret 1 c.wd c.q c.rt c.wt c.hello
def LNew (w w' : World) (c : LaC) (l : List Sv) (ls : List ByteArray) (e : Ending) : Prop := Below w.heap.size w w' /\ ((∃ x, e = .returned (.tuple #[.pointer none, .int .i64 x]) /\ x ≠ 0 /\ ¬ LGood c l ls) \/
 ∃ lb tb cb lm ps pv, e = .returned (.tuple #[.pointer (some ⟨lb, 0, none⟩), .int .i64 0]) /\ w.heap.size <= lb /\ LC w' c.bare l lb tb cb lm ps pv 0)
def lCells0 (c : LaC) (tb lm : Nat) : Array Value := lCells c tb (.pointer none) (.slice none 0 0) (.map (some lm)) 0 0 0 0 (.slice none 0 0) (.slice none 0 0)
theorem build_lac (c : LaC) (tb lm : Nat) (w : World) : (Instr.build 57 #[(0, .agg c.cells), (1, .pointer (some ⟨tb, 0, none⟩)), (4, .map (some lm))]).run Tryz.prog w = .ok (.agg (lCells0 c tb lm)) w := by kernel_rfl
theorem box_lac (c : LaC) (tb lm : Nat) (w : World) : (Instr.box 57 (.agg (lCells0 c tb lm))).run Tryz.prog w = .ok (.pointer (some ⟨w.heap.size, 0, none⟩)) (w.alloc (.cells (lCells0 c tb lm) 57 (0, 0))) := by kernel_rfl
theorem wpl_newlac {ops : Array Oper} {rest : List Oper} {Q : Exit -> Act -> World -> Prop} {a : Act} {w : World} (c : LaC) (tb lm : Nat) {d1 d2 : Tmp} {y0 y1 y4 : Operand} {t1 t2 : TypeId} {p1 p2 : String} {f1 f2 : Array Edge}
 (h0 : a.eval y0 = .agg c.cells) (h1 : a.eval y1 = .pointer (some ⟨tb, 0, none⟩)) (h4 : a.eval y4 = .map (some lm))
 (hx : (a.put (some d1) (.agg (lCells0 c tb lm))).eval (.tmp d1) = .agg (lCells0 c tb lm))
 (h : wpList Tryz.prog ops Q rest ((a.put (some d1) (.agg (lCells0 c tb lm))).put (some d2) (.pointer (some ⟨w.heap.size, 0, none⟩))) (w.alloc (.cells (lCells0 c tb lm) 57 (0, 0)))) :
 wpList Tryz.prog ops Q ({ dst := some d1, op := .build 57 #[(0, y0), (1, y1), (4, y4)], type := t1, pos := p1, after := f1, guard := none } :: { dst := some d2, op := .box 57 (.tmp d1), type := t2, pos := p2, after := f2, guard := none } :: rest) a w := by
 refine Go.Tg.step_val (v := .agg (lCells0 c tb lm)) (w' := w) rfl ?_ ?_
 . simp only [execOp, List.map_toArray, List.map_cons, List.map_nil, h0, h1, h4, Sem.run_bind, build_lac, Result.andThen_ok, Sem.run_pure]
 . refine Go.Tg.step_val (v := .pointer (some ⟨w.heap.size, 0, none⟩)) (w' := w.alloc (.cells (lCells0 c tb lm) 57 (0, 0))) rfl ?_ h; simp only [execOp, hx, Sem.run_bind, box_lac, Result.andThen_ok, Sem.run_pure]
theorem lCells_q (c : LaC) (tb lm : Nat) : ((lCells0 c tb lm).setIfInBounds 8 (.slice none 0 0)).setIfInBounds 24 (.slice none 0 0) = lCells0 c.bare tb lm := by kernel_rfl
theorem lCells_cv (c : LaC) (tb lm cb : Nat) : (lCells0 c tb lm).setIfInBounds 26 (.pointer (some ⟨cb, 0, none⟩)) = lCells c tb (.pointer (some ⟨cb, 0, none⟩)) (.slice none 0 0) (.map (some lm)) 0 0 0 0 (.slice none 0 0) (.slice none 0 0) := by kernel_rfl
theorem lCells_pv (c : LaC) (tb cb lm : Nat) (pv p2 : Value) : (lCells c tb (.pointer (some ⟨cb, 0, none⟩)) pv (.map (some lm)) 0 0 0 0 (.slice none 0 0) (.slice none 0 0)).setIfInBounds 27 p2 = lCells c tb (.pointer (some ⟨cb, 0, none⟩)) p2 (.map (some lm)) 0 0 0 0 (.slice none 0 0) (.slice none 0 0) := by kernel_rfl
structure LI (w8 wr : World) (c : LaC) (lb tb cb lm k : Nat) (ps : List Nat) (pv : Value) : Prop where
 x : wr.heap[lb]? = some (.cells (lCells c tb (.pointer (some ⟨cb, 0, none⟩)) pv (.map (some lm)) 0 0 0 0 (.slice none 0 0) (.slice none 0 0)) 57 (0, 0))
 r : PtRow wr w8.heap.size pv ps
 n : ps.length = k
 s : ∀ b ∈ ps, w8.heap.size <= b /\ ∃ s : Sv, wr.heap[b]? = some (.cells (svC s) 71 (0, 0))
 k : Keep (· = lb) w8 wr
theorem LI.below {w8 wr w' : World} {c : LaC} {lb tb cb lm k : Nat} {ps : List Nat} {pv : Value} (h : LI w8 wr c lb tb cb lm k ps pv) (b : Below wr.heap.size wr w') : LI w8 w' c lb tb cb lm k ps pv := by
 have up : ∀ {k o}, wr.heap[k]? = some o -> w'.heap[k]? = wr.heap[k]? := fun hk => b.block _ (Array.getElem?_eq_some_iff.1 hk).1; exact ⟨(up h.x).trans h.x, h.r.below b, h.n, fun b hb => ⟨(h.s b hb).1, by obtain ⟨s, hs⟩ := (h.s b hb).2; exact ⟨s, (up hs).trans hs⟩⟩, h.k.trans (Keep.of_below _ b)⟩
theorem LI.app {w8 wr w' : World} {c : LaC} {lb tb cb lm k : Nat} {ps : List Nat} {pv : Value} {g cap d : Nat} {s : Sv} (hlb : lb < w8.heap.size) (h : LI w8 wr c lb tb cb lm k ps pv) (hd : w8.heap.size <= d) (hds : wr.heap[d]? = some (.cells (svC s) 71 (0, 0)))
 (hr : PtRow w' w8.heap.size (.slice (some ⟨g, 0, none⟩) (ps.length + 1) cap) (ps ++ [d])) (hk : Keep (fun k => pv.ownBlock = some k) wr w') (hg : pv.ownBlock = some g \/ g = wr.heap.size) :
 LI w8 (w'.setCell ⟨lb, 27, none⟩ (.slice (some ⟨g, 0, none⟩) (ps.length + 1) cap)) c lb tb cb lm (k + 1) (ps ++ [d]) (.slice (some ⟨g, 0, none⟩) (ps.length + 1) cap) /\ w'.heap[lb]? = some (.cells (lCells c tb (.pointer (some ⟨cb, 0, none⟩)) pv (.map (some lm)) 0 0 0 0 (.slice none 0 0) (.slice none 0 0)) 57 (0, 0)) := by
 have hlt : ∀ {k o}, wr.heap[k]? = some o -> k < wr.heap.size := fun hk => (Array.getElem?_eq_some_iff.1 hk).1; have hx : w'.heap[lb]? = _ := (hk.block lb (hlt h.x) (fun e => by have := (h.r.lt _ e).2; omega)).trans h.x
 have hgb : w8.heap.size <= g := by
  rcases hg with hg | hg
  . exact (h.r.lt _ hg).2
  . rw [hg]; exact h.k.size
 have hs' : ∀ {b : Nat} {s : Sv}, wr.heap[b]? = some (.cells (svC s) 71 (0, 0)) -> w'.heap[b]? = some (.cells (svC s) 71 (0, 0)) := fun hb => (hk.block _ (hlt hb) (h.r.ne hb)).trans hb; have up : ∀ {k} (v : Value), k ≠ lb -> (w'.setCell ⟨lb, 27, none⟩ v).heap[k]? = w'.heap[k]? := fun v hn => Go.Deep.blk_setCell_other w' _ _ _ hn; refine ⟨⟨?_, ?_, by rw [List.length_append, h.n]; rfl, ?_, ?_⟩, hx⟩
 . have := blkSet (v := .slice (some ⟨g, 0, none⟩) (ps.length + 1) cap) (i := 27) hx; rw [lCells_pv] at this; exact this
 . exact hr.keep (T := (· = lb)) (keepSet w' lb 27 _) (fun k hk e => by
    have h1 : g = k := by simpa [Value.ownBlock] using hk
    have h2 : k = lb := e
    omega)
 . intro b hb
   rcases List.mem_append.1 hb with hb | hb
   . obtain ⟨h1, s', h2⟩ := h.s b hb; exact ⟨h1, s', (up _ (by omega)).trans (hs' h2)⟩
   . simp only [List.mem_singleton] at hb; subst hb; exact ⟨hd, s, (up _ (by omega)).trans (hs' hds)⟩
 . exact (⟨hk.os.trans h.k.os, hk.tape.trans h.k.tape, hk.output.trans h.k.output, Nat.le_trans h.k.size hk.size, fun k hk' hn => (hk.block k (Nat.lt_of_lt_of_le hk' h.k.size) (fun e => by have := (h.r.lt _ e).2; omega)).trans (h.k.block k hk' hn)⟩ : Keep (fun x => x = lb) w8 w').trans (keepSet w' lb 27 _)
theorem LI.lc {w8 wr : World} {c : LaC} {l : List Sv} {lb tb cb lm : Nat} {ps : List Nat} {pv : Value} (hlb : lb < w8.heap.size) (hlm : lm < w8.heap.size) (hne : lm ≠ lb) (hm : w8.heap[lm]? = some (.map #[] 0)) (hl : l.length <= 1000000) (h : LI w8 wr c lb tb cb lm l.length ps pv) : LC wr c l lb tb cb lm ps pv 0 :=
 ⟨h.x, (h.k.block lm hlm hne).trans hm, (Rec.of_owns h.r (ptL_len ps).symm (ptL_k ps) (by rw [h.n]; unfold maxLen; omega)).mono (fun b hb => by omega), h.n, fun b hb => ⟨by have := (h.s b hb).1; omega, (h.s b hb).2⟩, hne⟩
structure NwS (lb sb : Nat) (pv : Value) (nd : Int) (se re : ByteArray) (Y : World) : Prop where
 c27 : Y.cell? ⟨lb, 27, none⟩ = some pv
 t0 : Y.cell? ⟨sb, 0, none⟩ = some (.int .i64 nd)
 t1 : Y.cell? ⟨sb, 1, none⟩ = some (.string se)
 t2 : Y.cell? ⟨sb, 2, none⟩ = some (.string re)
theorem step_append_pt {B : Nat} {w : World} {ops : Array Oper} {o : Oper} {a : Act} {K : Act -> World -> Prop} {Q : Exit -> Act -> World -> Prop} {E : Prop} (hgd : o.guard = none) (s x : Operand)
 (ho : o.op = .call { callee := .builtin .append, args := #[s, x], argTypes := #[54, 54] }) (v : Value) (l : List Nat) (hs : a.eval s = v) (hown : PtRow w B v l)
 (bx c : Nat) (d : Nat) (hx : a.eval x = .slice (some ⟨bx, 0, none⟩) 1 c) (hb : w.heap[bx]? = some (.cells #[.pointer (some ⟨d, 0, none⟩)] 69 (0, 0))) (hlen : l.length <= 1000000) (hW : B <= w.heap.size)
 (h : ∀ g cap w', PtRow w' B (.slice (some ⟨g, 0, none⟩) (l.length + 1) cap) (l ++ [d]) -> Keep (fun k => v.ownBlock = some k) w w' -> (v.ownBlock = some g \/ g = w.heap.size) -> K (a.put o.dst (.slice (some ⟨g, 0, none⟩) (l.length + 1) cap)) w') :
 if Region.wanted o (yielded ops a.tmps) = true then Oper.wp Tryz.prog o a w K Q else E := by
 obtain ⟨i, z, hi, hz, hsz, hby, hzs⟩ := pt_info
 refine step_append_lies (P := Tryz.prog) (w := w) hgd s x 54 ho B 69 i z 1 8 Tryz.underlying54 hi hz hsz hby hzs (by decide) v l.length (ptL l).flatten hs hown ⟨bx, 0, none⟩ 1 c [.pointer (some ⟨d, 0, none⟩)] hx rfl
  (World.news_of_block hb) (by intro u hu; simp only [List.mem_singleton] at hu; subst hu; rfl) (by decide) (by unfold maxLen; omega) (by omega) hW w.heap.size rfl ?_
 intro g cap w' h1 h2 h3 _; exact h g cap w' (by unfold PtRow; rw [List.length_append, ptL_app]; exact h1) (keep_of_grown h2) h3
set_option maxRecDepth 100000 in
theorem lacNew_any (c : LaC) (l : List Sv) (ls : List ByteArray) (ok ok2 : Nat -> Prop) (w : World) (hl : Svs w ok (.slice c.srva c.srvl c.srvc) l) (hs : Strs w ok2 (.slice c.sva c.svl c.svc) ls) (hml : l.length <= 1000000) (hms : ls.length <= 1000000) (hw : ∀ s ∈ l, I64 s.node) (hI : I64 c.auth) (hnd : I64 c.node) (hc : c.name.size <= 40 -> c.cookie.size <= 140737488355328) :
 Calls Tryz.prog 6 #[.agg c.cells, .pointer none] w fun e w' => LNew w w' c l ls e := by
 have q1 : ∀ w, (binOp .eql 50 (.pointer none) (.pointer none)).run Tryz.prog w = .ok (.bool true) w := fun w => by kernel_rfl
 have hmm := @run_makeMap Tryz.prog; obtain ⟨W, hW⟩ : ∃ W, W = w.alloc (.cells c.cells 27 (0, 0)) := ⟨_, rfl⟩; have b1 : Below w.heap.size w W := by rw [hW]; exact (Below.refl _ _).alloc (Nat.le_refl _) _
 have x0 : W.heap[w.heap.size]? = some (.cells c.cells 27 (0, 0)) := by rw [hW]; exact at1 _ _
 have hsz : W.heap.size = w.heap.size + 1 := by rw [hW, alloc1]
 have HX := H_ (A_ b1 (A_ x0 hsz)); have HR := H_ (lcfg_range x0); have HRt := H_ (right_any c l ok W (hl.below b1) hml hw hnd)
 have hlen : c.srvl = l.length := by
  obtain ⟨sa, sc, hv, -, -⟩ := hl.form; exact (Value.slice.inj hv).2.1
 have HL := H_ (A_ hl (A_ hml hlen)); have HS := H_ (A_ hs (A_ hms hc)); have HI := H_ hI; clear hl hs hml hms hw hI hnd hc b1 x0 hsz hlen; obtain ⟨rb, hrb⟩ : ∃ rb, rightB c l = rb := ⟨_, rfl⟩; rw [hrb] at HRt; cases rb
 . have HN := H_ (show ¬ LGood c l ls from fun h => by have := h.1; rw [hrb] at this; cases this); clear hrb; go_enter Tryz.func6, Tryz.ntmps6
   go_upto_region 1 with (refine lwpl_cfgbox c (by rfl) ?_)
   rw [<- hW]; clear hW
   go_wp2_with (first | (refine lwpl_cfgload rfl _ rfl w.heap.size (by rfl) c HR.out ?_) | (go_at_call 14; refine HRt.out.mono ?_; rintro e w1 ⟨rfl, b2⟩; have HB := H_ (HX.out.1.trans (b2.mono HX.out.1.size)); clear b2))
   go_ret2; exact ⟨HB.out, .inl ⟨1, rfl, by decide, HN.out⟩⟩
 have HG := H_ hrb
 have hl1 : 1 <= l.length := by
  unfold rightB at hrb
  split at hrb
  . cases hrb
  . omega
 have HL1 := H_ hl1; clear hrb hl1; go_enter Tryz.func6, Tryz.ntmps6
 go_upto_region 1 with (refine lwpl_cfgbox c (by rfl) ?_)
 rw [<- hW]; clear hW
 go_wp2_with (first | (refine lwpl_cfgload rfl _ rfl w.heap.size (by rfl) c HR.out ?_) | (go_at_call 14; refine HRt.out.mono ?_; rintro e w1 ⟨rfl, b2⟩; have HB1 := H_ b2; clear b2))
 refine (tapeNew_any [] _ (fun _ => False) _ (Rec.nil _ _ _) (fun _ h => by cases h) (by decide)).mono ?_; rintro e w3 ⟨tb, rfl, t3, lo3, b3⟩; have hb3 : Below W.heap.size W w3 := HB1.out.trans (b3.mono HB1.out.size); have x3 := (hb3.block w.heap.size (by rw [HX.out.2.2]; omega)).trans HX.out.2.1; have HT := H_ (A_ t3 (A_ t3.lt hb3)); have HR3 := H_ (lcfg_range x3); clear t3 b3 x3 hb3 HR HRt HB1
 go_upto_region 6 with (first | (refine lwpl_cfgload rfl _ rfl w.heap.size (by rfl) c HR3.out ?_) | (refine wpl_newlac c tb w3.heap.size (by rfl) (by rfl) (by rfl) (by rfl) ?_))
 obtain ⟨V0, hV⟩ : ∃ V, V = (w3.alloc (.map #[] 0)).alloc (.cells (lCells0 c tb w3.heap.size) 57 (0, 0)) := ⟨_, rfl⟩; have hbV : Below w3.heap.size w3 V0 := by rw [hV]; exact ((Below.refl _ _).alloc (Nat.le_refl _) _).alloc (by rw [alloc1]; omega) _
 have v0 : V0.heap[w3.heap.size]? = some (.map #[] 0) := by rw [hV]; exact at20 _ _ _
 have v1 : V0.heap[w3.heap.size + 1]? = some (.cells (lCells0 c tb w3.heap.size) 57 (0, 0)) := by rw [hV]; exact at21 _ _ _
 have vs : V0.heap.size = w3.heap.size + 1 + 1 := by rw [hV, alloc1, alloc1]
 have f8 := frozen_of_block v1 8; have f24 := frozen_of_block v1 24; have c8 := cellOf v1 8 (.slice c.sva c.svl c.svc) rfl; have c24 := cellOf v1 24 (.slice c.srva c.srvl c.srvc) rfl
 try simp only [World.heap_size_alloc] 
 rw [<- hV]; clear hV
 go_upto_region 7 with (fail)
 have hbW : Below w3.heap.size w3 ((V0.setCell ⟨w3.heap.size + 1, 8, none⟩ (.slice none 0 0)).setCell ⟨w3.heap.size + 1, 24, none⟩ (.slice none 0 0)) := (hbV.setCell (p := ⟨w3.heap.size + 1, 8, none⟩) (by show w3.heap.size <= w3.heap.size + 1; omega) _).setCell (p := ⟨w3.heap.size + 1, 24, none⟩) (by show w3.heap.size <= w3.heap.size + 1; omega) _; have u1 := blkSet (v := .slice none 0 0) (i := 24) (blkSet (v := .slice none 0 0) (i := 8) v1); rw [lCells_q] at u1
 have u0 : ((V0.setCell ⟨w3.heap.size + 1, 8, none⟩ (.slice none 0 0)).setCell ⟨w3.heap.size + 1, 24, none⟩ (.slice none 0 0)).heap[w3.heap.size]? = some (.map #[] 0) := by
  rw [Go.Deep.blk_setCell_other _ _ _ _ (by show w3.heap.size ≠ w3.heap.size + 1; omega), Go.Deep.blk_setCell_other _ _ _ _ (by show w3.heap.size ≠ w3.heap.size + 1; omega)]; exact v0
 generalize (V0.setCell ⟨w3.heap.size + 1, 8, none⟩ (.slice none 0 0)).setCell ⟨w3.heap.size + 1, 24, none⟩ (.slice none 0 0) = V at hbW u1 u0 ⊢; clear hbV v0 v1 vs f8 f24 c8 c24; have hb4 : Below W.heap.size W V := HT.out.2.2.trans (hbW.mono HT.out.2.2.size); have hb5 : Below w.heap.size w V := HX.out.1.trans (hb4.mono HX.out.1.size); have x4 := (hb4.block w.heap.size (by rw [HX.out.2.2]; omega)).trans HX.out.2.1; have y0 := cellOf x4 0 (.int .u8 (c.m0.toNat : Int)) rfl; have y1 := cellOf x4 1 (.int .u8 (c.m1.toNat : Int)) rfl; have y2 := cellOf x4 2 (.int .u8 (c.m2.toNat : Int)) rfl; have y3 := cellOf x4 3 (.int .u8 (c.m3.toNat : Int)) rfl; have y4 := cellOf x4 4 (.int .u8 (c.m4.toNat : Int)) rfl; have y5 := cellOf x4 5 (.int .u8 (c.m5.toNat : Int)) rfl; have y6 := cellOf x4 6 (.string c.name) rfl; have y7 := cellOf x4 7 (.string c.cookie) rfl; have y8 := cellOf x4 8 (.slice c.sva c.svl c.svc) rfl; have y9 := cellOf x4 9 (.int .i64 c.most) rfl; have HV := H_ (A_ hbW (A_ u0 (A_ u1 (A_ hb4 (A_ hb5 x4))))); have HAC := H_ (acNew_any c.m0 c.m1 c.m2 c.m3 c.m4 c.m5 c.name c.cookie ls (.slice c.sva c.svl c.svc) ok2 c.most V (HS.out.1.below hb5) HS.out.2.1 HS.out.2.2); clear hbW u0 u1 hb4 hb5 x4; go_wp2_with fail; refine HAC.out.mono ?_; rintro e w4 h4; obtain ⟨b4, h4⟩ := h4; have HB4 := H_ b4; clear b4 y0 y1 y2 y3 y4 y5 y6 y7 y8 y9
 rcases h4 with ⟨x, rfl, hx, hno⟩ | ⟨cb, rfl⟩
 . have q2 : (x != 0) = true := by simpa using hx
   have q3 : (x == 0) = false := by simpa using hx
   have HN := H_ (A_ hx hno); clear hx hno; go_wp2_with fail; go_ret2; exact ⟨HV.out.2.2.2.2.1.trans (HB4.out.mono HV.out.2.2.2.2.1.size), .inl ⟨x, rfl, HN.out.1, fun hg => HN.out.2 hg.2.1⟩⟩
 have y1 := (HB4.out.block _ (Array.getElem?_eq_some_iff.1 HV.out.2.2.1).1).trans HV.out.2.2.1; have f26 := frozen_of_block y1 26; have c26 := cellOf y1 26 (.pointer none) rfl
 go_upto_region 11 with (fail)
 have u1 := blkSet (v := .pointer (some ⟨cb, 0, none⟩)) (i := 26) y1; rw [lCells_cv] at u1
 have u0 : (w4.setCell ⟨w3.heap.size + 1, 26, none⟩ (.pointer (some ⟨cb, 0, none⟩))).heap[w3.heap.size]? = some (.map #[] 0) := by
  rw [Go.Deep.blk_setCell_other _ _ _ _ (by show w3.heap.size ≠ w3.heap.size + 1; omega)]; exact (HB4.out.block _ (Array.getElem?_eq_some_iff.1 HV.out.2.1).1).trans HV.out.2.1
 have hb5 : Below w3.heap.size w3 (w4.setCell ⟨w3.heap.size + 1, 26, none⟩ (.pointer (some ⟨cb, 0, none⟩))) := (HV.out.1.trans (HB4.out.mono HV.out.1.size)).setCell (p := ⟨w3.heap.size + 1, 26, none⟩) (by show w3.heap.size <= w3.heap.size + 1; omega) _; generalize w4.setCell ⟨w3.heap.size + 1, 26, none⟩ (.pointer (some ⟨cb, 0, none⟩)) = w5 at u0 u1 hb5 ⊢; have hb6 : Below W.heap.size W w5 := HT.out.2.2.trans (hb5.mono HT.out.2.2.size); have HW := H_ (A_ hb6 (A_ (HX.out.1.trans (hb6.mono HX.out.1.size)) (A_ u0 u1))); have HLK := H_ (llink_any (c := c.bare) (cv := .pointer (some ⟨cb, 0, none⟩)) (sv := .slice none 0 0) (lv := .map (some w3.heap.size)) u1 (H_ ⟨HT.out.1.below hb5, fun b hb => by have := HT.out.2.1; have := hb.2; have := hb5.size; omega⟩) (H_ (show I64 c.bare.auth from HI.out))); clear y1 f26 c26 u0 u1 hb5 hb6 HB4 HAC HV hmm q1; go_wp2_with fail; refine HLK.out.mono ?_; rintro e w6 ⟨p6, x, rfl, b6, hx6⟩; have H6 := H_ (A_ b6 hx6); clear b6 hx6
 by_cases hx : x = 0
 case neg =>
  have q2 : (x != 0) = true := by simpa using hx
  have q3 : (x == 0) = false := by simpa using hx
  have HN := H_ hx; clear hx; go_wp2_with fail; go_ret2; exact ⟨HW.out.2.1.trans (H6.out.1.mono HW.out.2.1.size), .inl ⟨x, rfl, HN.out, fun hg => HN.out (H6.out.2.2 hg.2.2.1)⟩⟩
 subst hx; have hbn : Below W.heap.size W w6 := HW.out.1.trans (H6.out.1.mono HW.out.1.size); have x6 := (hbn.block w.heap.size (by rw [HX.out.2.2]; omega)).trans HX.out.2.1; have HW6 := H_ (A_ hbn (A_ (HX.out.1.trans (hbn.mono HX.out.1.size)) (A_ ((H6.out.1.block _ (Array.getElem?_eq_some_iff.1 HW.out.2.2.1).1).trans HW.out.2.2.1) ((H6.out.1.block _ (Array.getElem?_eq_some_iff.1 HW.out.2.2.2).1).trans HW.out.2.2.2)))); have z6 := cellOf x6 6 (.string c.name) rfl; have z18 := cellOf x6 18 (.int .i64 c.wt) rfl; have z19 := cellOf x6 19 (.int .i64 c.rt) rfl; clear hbn x6; have HSV := H_ (servNew_any c.name c.rt c.wt w6); go_wp2_with fail; refine HSV.out.mono ?_; rintro e w7 ⟨p7, x, rfl, b7, hx7⟩; have H7 := H_ (A_ b7 hx7); clear b7 hx7; clear z6 z18 z19
 by_cases hx : x = 0
 case neg =>
  have q2 : (x != 0) = true := by simpa using hx
  have q3 : (x == 0) = false := by simpa using hx
  have HN := H_ hx; clear hx; go_wp2_with fail; go_ret2; exact ⟨HW6.out.2.1.trans (H7.out.1.mono HW6.out.2.1.size), .inl ⟨x, rfl, HN.out, fun hg => HN.out (H7.out.2 hg.2.2.2.1)⟩⟩
 subst hx; have hbn : Below W.heap.size W w7 := HW6.out.1.trans (H7.out.1.mono HW6.out.1.size); have x7 := (hbn.block w.heap.size (by rw [HX.out.2.2]; omega)).trans HX.out.2.1; have HW7 := H_ (A_ hbn (A_ (HX.out.1.trans (hbn.mono HX.out.1.size)) (A_ ((H7.out.1.block _ (Array.getElem?_eq_some_iff.1 HW6.out.2.2.1).1).trans HW6.out.2.2.1) ((H7.out.1.block _ (Array.getElem?_eq_some_iff.1 HW6.out.2.2.2).1).trans HW6.out.2.2.2)))); clear hbn; obtain ⟨sb, soff, hs0, -, hc0⟩ := HL.out.1.at 0 HL1.out
 have z24 : w7.cell? ⟨w.heap.size, 24, none⟩ = some (.slice (some ⟨sb, soff, none⟩) l.length c.srvc) := by
  have := cellOf x7 24 (.slice c.srva c.srvl c.srvc) rfl; rw [hs0, HL.out.2.2] at this; exact this
 have zs : w7.cell? ⟨sb, soff + 1, none⟩ = some (.string (l[0]'HL1.out).secret) := by have := (hc0 w7 HW7.out.2.1).2.1; simpa using this
 have hl0 : ((l.length : Nat) : Int) = (l.length : Int) := rfl; have hl1 : 0 < l.length := HL1.out; have HTU := H_ (fun s => ltunnel_any (c := c.bare) (cv := .pointer (some ⟨cb, 0, none⟩)) (sv := .slice none 0 0) (lv := .map (some w3.heap.size)) HW7.out.2.2.2 s 1); obtain ⟨s0, hs00⟩ : ∃ s0, s0 = (l[0]'HL1.out).secret := ⟨_, rfl⟩; rw [<- hs00] at zs; have HS0 := H_ hs00; clear hs00 hc0 x7; go_wp2_with fail; refine (HTU.out _).mono ?_; rintro e w8 ⟨p8, x, rfl, b8, hx8⟩; have H8 := H_ (A_ b8 hx8); clear b8 hx8
 by_cases hx : x = 0
 case neg =>
  have q2 : (x != 0) = true := by simpa using hx
  have q3 : (x == 0) = false := by simpa using hx
  have HN := H_ hx; clear hx z24 zs; go_wp2_with fail; go_ret2; refine ⟨HW7.out.2.1.trans (H8.out.1.mono HW7.out.2.1.size), .inl ⟨x, rfl, HN.out, fun hg => HN.out (H8.out.2 ?_)⟩⟩; rw [HS0.out]; exact hg.2.2.2.2 _ (List.getElem_mem HL1.out)
 subst hx; clear z24 zs hl1 hl0; have hbn : Below W.heap.size W w8 := HW7.out.1.trans (H8.out.1.mono HW7.out.1.size); have x8 := (hbn.block w.heap.size (by rw [HX.out.2.2]; omega)).trans HX.out.2.1; have HW8 := H_ (A_ hbn (A_ (HX.out.1.trans (hbn.mono HX.out.1.size)) (A_ ((H8.out.1.block _ (Array.getElem?_eq_some_iff.1 HW7.out.2.2.1).1).trans HW7.out.2.2.1) ((H8.out.1.block _ (Array.getElem?_eq_some_iff.1 HW7.out.2.2.2).1).trans HW7.out.2.2.2)))); clear hbn
 have z24 : w8.cell? ⟨w.heap.size, 24, none⟩ = some (.slice (some ⟨sb, soff, none⟩) l.length c.srvc) := by
  have := cellOf x8 24 (.slice c.srva c.srvl c.srvc) rfl; rw [hs0, HL.out.2.2] at this; exact this
 have HLB := H_ (show w3.heap.size + 1 < w8.heap.size from (Array.getElem?_eq_some_iff.1 HW8.out.2.2.2).1); obtain ⟨len, hln⟩ : ∃ len, len = l.length := ⟨_, rfl⟩; have hmax : len <= 1000000 := by rw [hln]; exact HL.out.2.1
 rw [<- hln] at z24; have HLN := H_ hln; have HS8 := H_ hs0; clear x8 hs0 hln; go_wp2_with fail
 go_loopg [94] len (fun x i wr => ∃ k : Nat, k <= len /\ x = len - k /\ i = .int .i64 k /\ Hid (∃ ps pv, LI w8 wr c.bare (w3.heap.size + 1) tb cb w3.heap.size k ps pv))
 case atStart => exact ⟨0, by omega, by omega, rfl, H_ ⟨[], .slice none 0 0, ⟨HW8.out.2.2.2, PtRow.nil _ _, rfl, fun b hb => (by cases hb), Keep.refl _ _⟩⟩⟩
 case round =>
  obtain ⟨k, hk, rfl, rfl, hK⟩ := hrel; obtain ⟨ps, pv, hI⟩ := hK.out; have HIn := H_ hI; have hbw : Below w.heap.size w wr := HW8.out.2.1.trans (hI.k.below HW8.out.2.1.size (fun k hk e => by have e : k = w3.heap.size + 1 := e; have := HT.out.2.2.size; have := HX.out.2.2; omega)); have HBW := H_ hbw; clear hK
  by_cases hkl : k < len
  . have hkl' : k < l.length := by have := HLN.out; omega
    obtain ⟨b', off', hs1, -, hcc⟩ := HL.out.1.at k hkl'
    obtain ⟨rfl, rfl⟩ : b' = sb /\ off' = soff := by
     rw [HS8.out] at hs1; have := Option.some.inj hs1
     injection this with h1 h2 _
     exact ⟨h1.symm, h2.symm⟩
    obtain ⟨d0, d1, d2⟩ := hcc wr hbw; generalize l[k] = s at d0 d1 d2; obtain ⟨nd, se, re⟩ := s; simp only at d0 d1 d2
    have x1 := at1 wr (.cells #[.int .i64 nd, .string se, .string re] 45 (0, 0)); have hI1 := hI.below ((Below.refl wr.heap.size wr).alloc (Nat.le_refl _) (.cells #[.int .i64 nd, .string se, .string re] 45 (0, 0))); have HI1 := H_ hI1; have HX1 := H_ x1; have hB8 : w8.heap.size <= wr.heap.size := hI.k.size; clear hI hI1 x1 hcc hbw hs1
    go_upto_region 23 with (fail)
    generalize hw1 : wr.alloc (.cells #[.int .i64 nd, .string se, .string re] 45 (0, 0)) = wr1 at HI1 HX1 ⊢; have HL9 := H_ (show w8.heap.size <= wr1.heap.size from HI1.out.k.size); clear hw1 hB8; obtain ⟨psa, psc, rfl⟩ := HI1.out.r.form
    have HSA : Hid (∀ Y, Below wr1.heap.size wr1 Y -> NwS (w3.heap.size + 1) wr.heap.size (.slice psa ps.length psc) nd se re Y) := H_ fun Y hY => by
     have y := (hY.block _ (Array.getElem?_eq_some_iff.1 HX1.out).1).trans HX1.out; exact ⟨cellOf ((hY.block _ (Array.getElem?_eq_some_iff.1 HI1.out.x).1).trans HI1.out.x) 27 _ rfl, cellOf y 0 _ rfl, cellOf y 1 _ rfl, cellOf y 2 _ rfl⟩
    refine wp_region_H (rgH 0 10) (NwS (w3.heap.size + 1) wr.heap.size (.slice psa ps.length psc) nd se re) (by kernel_rfl) ?_; have HSv : NwS (w3.heap.size + 1) wr.heap.size (.slice psa ps.length psc) nd se re wr1.drew := HSA.out _ (Below.refl _ _).drew; have HY := H_ (show Below wr1.heap.size wr1 wr1.drew from (Below.refl _ _).drew); generalize wr1.drew = Y at HSv HY ⊢; refine hatH 0 rfl (by rintro W ⟨c27, t0, t1, t2⟩; go_simp; try rfl) HSv ?_; simp only [aZ, aC, aD]; refine hatH 1 rfl (by rintro W ⟨c27, t0, t1, t2⟩; go_simp; try rfl) HSv ?_; simp only [aZ, aC, aD]; refine hatH 2 rfl (by rintro W ⟨c27, t0, t1, t2⟩; go_simp; try rfl) HSv ?_; simp only [aZ, aC, aD]; refine hatH 3 rfl (by rintro W ⟨c27, t0, t1, t2⟩; go_simp; try rfl) HSv ?_; simp only [aZ, aC, aD]; refine hatH 4 rfl (by rintro W ⟨c27, t0, t1, t2⟩; go_simp; try rfl) HSv ?_; simp only [aZ, aC, aD]; refine hatH 5 rfl (by rintro W ⟨c27, t0, t1, t2⟩; go_simp; try rfl) HSv ?_; simp only [aZ, aC, aD]; refine hatH 6 rfl (by rintro W ⟨c27, t0, t1, t2⟩; go_simp; try rfl) HSv ?_; simp only [aZ, aC, aD]; refine hone 7 rfl fun K hK => ?_
    try go_simp
    have HY2 := H_ (A_ (HY.out.alloc HY.out.size (.cells (svC ⟨nd, se, re⟩) 71 (0, 0))) (A_ (at1 Y (.cells (svC ⟨nd, se, re⟩) 71 (0, 0))) HY.out.size)); unfold svC at HY2; generalize Y.alloc (.cells #[.int .i64 nd, .string se, .string re, .pointer none, .bool false, .int .i64 0] 71 (0, 0)) = Y2 at HY2 ⊢; have HSv : NwS (w3.heap.size + 1) wr.heap.size (.slice psa ps.length psc) nd se re Y2 := HSA.out _ HY2.out.1; refine hK _ _ (fun _ => HSv) ?_
    try simp only [aZ, aA, aE, aB, aC, aD]
    refine hone 8 rfl fun K hK => ?_
    try go_simp
    have hba := (Below.refl Y2.heap.size Y2).alloc (Nat.le_refl _) (.cells #[.pointer (some ⟨Y.heap.size, 0, none⟩)] 69 (0, 0)); have HY3 := H_ (A_ (HY2.out.1.trans (hba.mono HY2.out.1.size)) (A_ ((hba.block _ (Array.getElem?_eq_some_iff.1 HY2.out.2.1).1).trans HY2.out.2.1) (at1 Y2 (.cells #[.pointer (some ⟨Y.heap.size, 0, none⟩)] 69 (0, 0))))); clear hba; generalize Y2.alloc (.cells #[.pointer (some ⟨Y.heap.size, 0, none⟩)] 69 (0, 0)) = Y3 at HY3 ⊢; have HSv : NwS (w3.heap.size + 1) wr.heap.size (.slice psa ps.length psc) nd se re Y3 := HSA.out _ HY3.out.1; refine hK _ _ (fun _ => HSv) ?_
    try simp only [aZ, aA, aE, aB, aC, aD]
    have HI3 := H_ (HI1.out.below HY3.out.1); have hps : ps.length <= 1000000 := by rw [HI3.out.n]; omega
    refine wpAnyH_1 9 rfl (by kernel_rfl) ?_; intro K hK; refine step_append_pt rfl _ _ rfl _ ps rfl HI3.out.r Y2.heap.size 1 Y.heap.size rfl HY3.out.2.2 hps HI3.out.k.size ?_; intro g cap w' hr' hk' hg'; obtain ⟨hA, hx'⟩ := LI.app (s := ⟨nd, se, re⟩) HLB.out HI3.out (Nat.le_trans HL9.out HY2.out.2.2) HY3.out.2.1 hr' hk' hg'; have HA := H_ hA; have f27 := frozen_of_block hx' 27; have c27' := cellOf hx' 27 (.slice psa ps.length psc) rfl; have hy9 := (HY3.out.1.block _ (Array.getElem?_eq_some_iff.1 HX1.out).1).trans HX1.out; have hx9 := (hk'.block wr.heap.size (Array.getElem?_eq_some_iff.1 hy9).1 (fun e => by have := (HIn.out.r.lt _ e).1; omega)).trans hy9; have HSv : NwS (w3.heap.size + 1) wr.heap.size (.slice psa ps.length psc) nd se re w' := ⟨c27', cellOf hx9 0 _ rfl, cellOf hx9 1 _ rfl, cellOf hx9 2 _ rfl⟩; clear hA hx' hr' hk' hg' hy9 hx9; refine hK _ _ (fun _ => HSv) ?_
    try simp only [aZ, aA, aE, aB, aC, aD]
    refine hatP 10 rfl (by intro W _; go_simp; try rfl) ?_; simp only [aZ, aC, aD]; refine hatP 11 rfl (by intro W _; go_simp; try rfl) ?_; simp only [aZ, aC, aD]; refine hone 12 rfl fun K hK => ?_
    try go_simp
    refine hK _ _ (fun h => absurd h (by decide)) ?_
    try simp only [aZ, aA, aE, aB, aC, aD]
    refine hend 13 ?_; simp only [aF, aG]; go_wp2_with fail
    go_roundg (len - (k + 1))
    case measure => omega
    case rel => exact ⟨k + 1, by omega, rfl, by go_num, H_ ⟨_, _, HA.out⟩⟩
  . obtain rfl : len = k := by omega
    clear hI hbw; go_wp2_with fail; go_ret2; refine ⟨HBW.out, .inr ⟨w3.heap.size + 1, tb, cb, w3.heap.size, ps, pv, rfl, ?_, LI.lc HLB.out (by have := HLB.out; omega) (by omega) HW8.out.2.2.1 HL.out.2.1 (by rw [<- HLN.out]; exact HIn.out)⟩⟩; have := HT.out.2.2.size; have := HX.out.2.2; omega
set_option maxRecDepth 100000 in
theorem insL_nil (c : Value) (hc : c.oneCell' = true) (w : World) : Calls Tryz.prog 127 #[.slice none 0 0, .int .i64 0, .int .i64 0, c] w fun e w' => e = .returned (.tuple #[]) /\ w = w' := by
 go_enter Tryz.func127, Tryz.ntmps127; go_wp2_with fail; refine wp_loop_rounds 1 ?_; rw [rounds_succ]; go_wp2_with fail
 go_end0
 exact ⟨rfl, rfl⟩
set_option maxRecDepth 100000 in
theorem pdqL_nil (c : Value) (hc : c.oneCell' = true) (n : Int) (w : World) : Calls Tryz.prog 76 #[.slice none 0 0, .int .i64 0, .int .i64 0, .int .i64 n, c] w fun e w' => e = .returned (.tuple #[]) /\ w = w' := by
 have HI := H_ (insL_nil c hc w); go_enter Tryz.func76, Tryz.ntmps76; go_wp2_with fail; refine wp_loop_rounds 1 ?_; rw [rounds_succ]; go_wp2_with fail; refine HI.out.mono ?_; rintro e w1 ⟨rfl, rfl⟩; go_wp2_with fail; refine bodyPost_ret (results_none rfl _ _ _) rfl ?_; exact ⟨rfl, rfl⟩
set_option maxRecDepth 100000 in
theorem sortL_nil (c : Value) (hc : c.oneCell' = true) (w : World) : Calls Tryz.prog 39 #[.slice none 0 0, c] w fun e w' => e = .returned (.tuple #[]) /\ w = w' := by
 have HI := H_ (fun n => pdqL_nil c hc n w); have HL := H_ (len_nil w); go_enter Tryz.func39, Tryz.ntmps39; go_wp2_with fail; refine HL.out.mono ?_; rintro e w1 ⟨rfl, rfl⟩; go_wp2_with fail; refine (HI.out _).mono ?_; rintro e w1 ⟨rfl, rfl⟩; go_wp2_with fail
 go_end0
 exact ⟨rfl, rfl⟩
theorem mapNoneL {K : TypeId} {w : World} {b : Nat} (h : w.heap[b]? = some (.map #[] 0)) : MapAt Tryz.prog K w b (fun _ => none) := ⟨#[], 0, h, Go.MapKept.stamped_empty 0, by simp, by simp⟩
theorem ktAc : Tryz.prog.keyTypeAt 3 49 = true := by kernel_rfl
theorem szAc : decide (49 < Tryz.prog.types.size) = true := by kernel_rfl
theorem wdAc : (match Tryz.prog.underlying 49 with | some (.array _ _) | some (.struct _) => true | _ => false) = true := by kernel_rfl
set_option maxRecDepth 100000 in
theorem keyedAc : Keyed Tryz.prog 49 := Keyed.of_law (deep_law_laid laidOut (m := 3) (by omega) (of_decide_eq_true szAc) ktAc wdAc)
theorem zLine (w : World) : (zeroValue 74).run Tryz.prog w = .ok (.pointer none) w := by kernel_rfl
def zRow (n : Nat) : List (List Value) := List.replicate n [.int .i64 0]
def ZRow (w : World) (B : Nat) (v : Value) (n : Nat) : Prop := w.ownsRow B 3 1 v n (zRow n).flatten
theorem ZRow.nil (w : World) (B : Nat) : ZRow w B (.slice none 0 0) 0 := World.ownsRow_nil _ _ _ _
theorem ZRow.keep {w w' : World} {B : Nat} {v : Value} {l : Nat} {T : Nat -> Prop} (h : ZRow w B v l) (hk : Keep T w w') (hT : ∀ k, v.ownBlock = some k -> ¬ T k) : ZRow w' B v l := by
 obtain ⟨h0, h | ⟨g, cap, cur, hv, h1, h2, h3⟩⟩ := h
 . exact ⟨h0, Or.inl h⟩
 . have hlt := (Array.getElem?_eq_some_iff.1 h2).1; exact ⟨h0, Or.inr ⟨g, cap, cur, hv, h1, (hk.block g hlt (hT g (by rw [hv]; rfl))).trans h2, h3⟩⟩
theorem ZRow.below {w w' : World} {B : Nat} {v : Value} {l : Nat} (h : ZRow w B v l) (hb : Below w.heap.size w w') : ZRow w' B v l := h.keep (Keep.of_below (fun _ => False) hb) (fun _ _ h => h)
theorem ZRow.lt {w : World} {B : Nat} {v : Value} {l : Nat} (h : ZRow w B v l) : ∀ k, v.ownBlock = some k -> k < w.heap.size /\ B <= k := by
 intro k hk; have := World.ownsRow.lt h k hk; exact ⟨this.2, this.1⟩
theorem zRow_succ (n : Nat) : (zRow (n + 1)).flatten = (zRow n).flatten ++ [.int .i64 0] := by simp [zRow, List.replicate_succ']
theorem int_infoL : ∃ i z, Tryz.prog.info? 3 = some i /\ i.zero = some z /\ i.size = 1 /\ i.bytes = 8 /\ z.cells.size = 1 := by
 have h : (Tryz.prog.info? 3).map (fun i => (i.zero, i.size, i.bytes)) = some (some (.int .i64 0), 1, 8) := by kernel_rfl
 obtain ⟨i, hi, he⟩ := Option.map_eq_some_iff.1 h; simp only [Prod.mk.injEq] at he; exact ⟨i, _, hi, he.1, he.2.1, he.2.2, rfl⟩
theorem wpl_append_z {B : Nat} {w : World} {ops : Array Oper} {rest : List Oper} {o : Oper} {a : Act} {Q : Exit -> Act -> World -> Prop} (hgd : o.guard = none) (s x : Operand)
 (ho : o.op = .call { callee := .builtin .append, args := #[s, x], argTypes := #[38, 38] }) (v : Value) (l : Nat) (hs : a.eval s = v) (hown : ZRow w B v l)
 (bx c : Nat) (hx : a.eval x = .slice (some ⟨bx, 0, none⟩) 1 c) (hb : w.heap[bx]? = some (.cells #[.int .i64 0] 3 (0, 0))) (hlen : l <= 1000000) (hW : B <= w.heap.size)
 (h : ∀ g cap w', ZRow w' B (.slice (some ⟨g, 0, none⟩) (l + 1) cap) (l + 1) -> Keep (fun k => v.ownBlock = some k) w w' -> (v.ownBlock = some g \/ g = w.heap.size) -> wpList Tryz.prog ops Q rest (a.put o.dst (.slice (some ⟨g, 0, none⟩) (l + 1) cap)) w') : wpList Tryz.prog ops Q (o :: rest) a w := by
 obtain ⟨i, z, hi, hz, hsz, hby, hzs⟩ := int_infoL
 refine wpList_append_lies (P := Tryz.prog) (w := w) hgd s x 38 ho B 3 i z 1 8 Tryz.underlying38 hi hz hsz hby hzs (by decide) v l (zRow l).flatten hs hown ⟨bx, 0, none⟩ 1 c [.int .i64 0] hx rfl
  (World.news_of_block hb) (by intro u hu; simp only [List.mem_singleton] at hu; subst hu; rfl) (by decide) (by unfold maxLen; omega) (by omega) hW w.heap.size rfl ?_
 intro g cap w' h1 h2 h3 _; exact h g cap w' (by unfold ZRow; rw [zRow_succ]; exact h1) (keep_of_grown h2) h3
section
variable {w : World} {c : LaC} {l : List Sv} {lb tb cb lm : Nat} {ps : List Nat} {pv : Value} {now : Int}
theorem LC.grown {W : World} (h : LC w c l lb tb cb lm ps pv now) (hb : Below w.heap.size w W) (d : Nat) (os : Array Obj) : LC (Go.Sort.grow (redrawn W d) os) c l lb tb cb lm ps pv now := h.keep (hb.trans ((below_regrown W d os).mono hb.size))
theorem LC.form (h : LC w c l lb tb cb lm ps pv now) : ∃ sa sc, pv = .slice sa l.length sc /\ ∀ k, k < l.length -> ∃ b off d, sa = some ⟨b, off, none⟩ /\ d ≠ lb /\ ∀ Y, Below w.heap.size w Y -> Y.cell? ⟨b, off + k, none⟩ = some (.pointer (some ⟨d, 0, none⟩)) /\ Y.cell? ⟨d, 3, none⟩ = some (.pointer none) /\ Y.cell? ⟨d, 4, none⟩ = some (.bool false) := by
 obtain ⟨sa, sc, hv, -, -⟩ := h.r.form; rw [ptL_len, h.n] at hv; refine ⟨sa, sc, hv, fun k hk => ?_⟩; subst hv; have hk' : k < ps.length := by rw [h.n]; exact hk
 obtain ⟨b, off, hs, hb, -, -, -, -, hr⟩ := Rec.at h.r k (by rw [ptL_len]; exact hk'); obtain ⟨hne, s, hblk⟩ := h.s ps[k] (List.getElem_mem hk'); refine ⟨b, off, ps[k], hs, hne, fun Y hY => ⟨?_, ?_, ?_⟩⟩
 . have := hr 0 (.pointer (some ⟨ps[k], 0, none⟩)) (by simp [ptL]); rw [Nat.mul_one, Nat.add_zero] at this; exact (hY.cell (p := ⟨b, off + k, none⟩) hb).trans this
 . exact cellOf ((hY.block _ (Array.getElem?_eq_some_iff.1 hblk).1).trans hblk) 3 _ rfl
 . exact cellOf ((hY.block _ (Array.getElem?_eq_some_iff.1 hblk).1).trans hblk) 4 _ rfl
theorem lCells_now (c : LaC) (tb cb lm : Nat) (pv : Value) (now m : Int) : (lCells c tb (.pointer (some ⟨cb, 0, none⟩)) pv (.map (some lm)) now 0 0 0 (.slice none 0 0) (.slice none 0 0)).setIfInBounds 29 (.int .i64 m) = lCells c tb (.pointer (some ⟨cb, 0, none⟩)) pv (.map (some lm)) m 0 0 0 (.slice none 0 0) (.slice none 0 0) := by kernel_rfl
theorem LC.tick (h : LC w c l lb tb cb lm ps pv now) (m : Int) : LC (w.setCell ⟨lb, 29, none⟩ (.int .i64 m)) c l lb tb cb lm ps pv m := by
 have hx := blkSet (v := .int .i64 m) (i := 29) h.x; rw [lCells_now] at hx; have up : ∀ {k}, k ≠ lb -> (w.setCell ⟨lb, 29, none⟩ (.int .i64 m)).heap[k]? = w.heap[k]? := fun hn => Go.Deep.blk_setCell_other w _ _ _ hn; exact ⟨hx, (up h.d).trans h.m, Rec.keep h.r (T := (· = lb)) (keepSet w lb 29 _) (fun b _ hb he => hb he), h.n, fun b hb => ⟨(h.s b hb).1, by obtain ⟨s, hs⟩ := (h.s b hb).2; exact ⟨s, (up (h.s b hb).1).trans hs⟩⟩, h.d⟩
theorem lcnone_at (h : LC w c l lb tb cb lm ps pv now) : Calls Tryz.prog 20 #[.pointer (some ⟨lb, 0, none⟩)] w fun e w' => e = .returned (.bool false) /\ w = w' := by
 have q1 : ∀ w a, (binOp .eql 30 (.pointer (some a)) (.pointer none)).run Tryz.prog w = .ok (.bool false) w := fun w a => by kernel_rfl
 have q2 : ∀ w a, (binOp .eql 53 (.pointer (some a)) (.pointer none)).run Tryz.prog w = .ok (.bool false) w := fun w a => by kernel_rfl
 have c26 : w.cell? ⟨lb, 26, none⟩ = some (.pointer (some ⟨cb, 0, none⟩)) := cellOf h.x 26 _ rfl; clear h; go_enter Tryz.func20, Tryz.ntmps20; go_wp2_with fail; go_ret; exact ⟨rfl, rfl⟩
theorem lsorted_at (h : LC w c l lb tb cb lm ps pv now) : Calls Tryz.prog 21 #[.pointer (some ⟨lb, 0, none⟩)] w fun e w' => e = .returned (.slice none 0 0) /\ Below w.heap.size w w' := by
 have c28 : w.cell? ⟨lb, 28, none⟩ = some (.map (some lm)) := cellOf h.x 28 _ rfl; have HM := H_ (mapNoneL (K := 49) h.m); have HS := H_ (fun w => sortL_nil (.func (Fn.func 40) #[] #[]) (by rfl) w); clear h; go_enter Tryz.func21, Tryz.ntmps21
 go_wp2_with (first | (at_range; refine wpl_range _ rfl _ 52 49 74 rfl Tryz.underlying52 lm (fun _ => none) (by rfl) HM.out ?_; intro w1 n hit hk hsz))
 have hb1 := hk.below (Nat.le_refl _) (fun _ _ h => h); have HB1 := H_ hb1; clear hk hb1; refine wp_loop_rounds 1 ?_; rw [rounds_succ]
 go_wp2_with (first | (at_next; refine wpl_next _ rfl _ rfl 49 w.heap.size lm (fun _ => none) _ _ (by rfl) hit ?_ ?_))
 refine (HS.out _).mono ?_; rintro e w2 ⟨rfl, rfl⟩; go_wp2_with fail; go_ret; exact ⟨rfl, HB1.out⟩
theorem llook_at (h : LC w c l lb tb cb lm ps pv now) (hm : l.length <= 1000000) : Calls Tryz.prog 26 #[.pointer (some ⟨lb, 0, none⟩)] w fun e w' => e = .returned (.tuple #[]) /\ Below w.heap.size w w' := by
 have q1 : ∀ w, (binOp .eql 66 (.pointer none) (.pointer none)).run Tryz.prog w = .ok (.bool true) w := fun w => by kernel_rfl
 have q2 : ∀ w, (binOp .neq 66 (.pointer none) (.pointer none)).run Tryz.prog w = .ok (.bool false) w := fun w => by kernel_rfl
 obtain ⟨sa, sc, hpv, hat⟩ := h.form; subst hpv; have HA := H_ hat; have HS := H_ (fun W hW => lsorted_at (h.keep hW) (w := W)); have c27 : w.cell? ⟨lb, 27, none⟩ = some (.slice sa l.length sc) := cellOf h.x 27 _ rfl; obtain ⟨len, hln⟩ : ∃ len, len = l.length := ⟨_, rfl⟩; rw [<- hln] at c27 hm; have HLN := H_ hln; clear h hat hln; go_enter Tryz.func26, Tryz.ntmps26; go_wp2_with fail; refine wp_loop_rounds 2 ?_; rw [rounds_succ]; go_wp2_with fail
 go_loopg [13] len (fun x i wr => ∃ k : Nat, k <= len /\ x = len - k /\ i = .int .i64 k /\ w = wr)
 case atStart => exact ⟨0, by omega, by omega, rfl, rfl⟩
 case round =>
  obtain ⟨k, hk, rfl, rfl, rfl⟩ := hrel
  by_cases hkl : k < len
  . obtain ⟨b, off, d, rfl, -, hc⟩ := HA.out k (by have := HLN.out; omega); obtain ⟨d0, d1, d2⟩ := hc w (Below.refl _ _); clear hc; go_wp2_with fail
    go_roundg (len - (k + 1))
    case measure => omega
    case rel => exact ⟨k + 1, by omega, rfl, by go_num, rfl⟩
  . go_wp2_with (go_at_call 21; refine (HS.out _ (Below.refl _ _)).mono ?_; rintro e w1 ⟨rfl, b1⟩; have HB := H_ b1; clear b1)
    refine wp_loop_rounds 1 ?_; rw [rounds_succ]; go_wp2_with fail; rw [rounds_succ]; go_wp2_with fail
    first | go_end0 | refine bodyPost_ret (results_none rfl _ _ _) rfl ?_
    exact ⟨rfl, HB.out⟩
theorem lTick_at (h : LC w c l lb tb cb lm ps pv now) (hm : l.length <= 1000000) (hn : 0 <= now /\ now < 1000000) : Calls Tryz.prog 7 #[.pointer (some ⟨lb, 0, none⟩)] w fun e w' => e = .returned (.tuple #[]) /\ LC w' c l lb tb cb lm ps pv (now + 1) /\ Keep (· = lb) w w' := by
 obtain ⟨W, hW⟩ : ∃ W, W = w.setCell ⟨lb, 29, none⟩ (.int .i64 (now + 1)) := ⟨_, rfl⟩; have ht := h.tick (now + 1); have hk : Keep (· = lb) w W := by rw [hW]; exact keepSet w lb 29 _
 rw [<- hW] at ht; have HN := H_ (lcnone_at h); have c29 := cellOf h.x 29 (.int .i64 now) rfl; have f29 := frozen_of_block h.x 29; have e1 : wrap64 (now + 1) = now + 1 := by unfold wrap64; omega
 have e2 : min (now + 1) (4611686018427387904 : Int) = now + 1 := by omega
 have q1 : ∀ w, (binOp .eql 66 (.pointer none) (.pointer none)).run Tryz.prog w = .ok (.bool true) w := fun w => by kernel_rfl
 have q2 : ∀ w, (binOp .neq 66 (.pointer none) (.pointer none)).run Tryz.prog w = .ok (.bool false) w := fun w => by kernel_rfl
 have HT := H_ (A_ ht hk); obtain ⟨sa, sc, hpv, hat⟩ := ht.form; subst hpv; have HA := H_ hat; obtain ⟨len, hln⟩ : ∃ len, len = l.length := ⟨_, rfl⟩; have HLN := H_ hln; have hm' := hm; rw [<- hln] at hm'; have HM := H_ hm; clear h hn ht hk hat hln hm; go_enter Tryz.func7, Tryz.ntmps7
 go_wp2_with (first | (go_at_call 20; refine HN.out.mono ?_; rintro e w1 ⟨rfl, rfl⟩) | (go_at_call 21; rw [<- hW]; refine (lsorted_at HT.out.1).mono ?_; rintro e w2 ⟨rfl, b2⟩; have H2 := H_ (A_ (HT.out.1.keep b2) (A_ (HT.out.2.trans (Keep.of_below _ b2)) b2)); clear b2))
 refine wp_loop_rounds 1 ?_; rw [rounds_succ]; have c27 : w2.cell? ⟨lb, 27, none⟩ = some (.slice sa len sc) := by rw [HLN.out]; exact cellOf H2.out.1.x 27 _ rfl
 go_wp2_with fail
 go_loopg [64] len (fun x i wr => ∃ k : Nat, k <= len /\ x = len - k /\ i = .int .i64 k /\ w2 = wr)
 case atStart => exact ⟨0, by omega, by omega, rfl, rfl⟩
 case round =>
  obtain ⟨k, hk, rfl, rfl, rfl⟩ := hrel
  by_cases hkl : k < len
  . obtain ⟨b, off, d, rfl, -, hc⟩ := HA.out k (by have := HLN.out; omega); obtain ⟨d0, d1, d2⟩ := hc w2 H2.out.2.2; clear hc; go_wp2_with fail
    go_roundg (len - (k + 1))
    case measure => omega
    case rel => exact ⟨k + 1, by omega, rfl, by go_num, rfl⟩
  . go_wp2_with (go_at_call 26; refine (llook_at H2.out.1 HM.out).mono ?_; rintro e w4 ⟨rfl, b4⟩; have H4 := H_ (A_ (H2.out.1.keep b4) (H2.out.2.1.trans (Keep.of_below _ b4))); clear b4)
    first | go_end0 | refine bodyPost_ret (results_none rfl _ _ _) rfl ?_
    exact ⟨rfl, H4.out⟩
theorem lNow_at (h : LC w c l lb tb cb lm ps pv now) : Calls Tryz.prog 11 #[.pointer (some ⟨lb, 0, none⟩)] w fun e w' => e = .returned (.int .i64 now) /\ Below w.heap.size w w' := by
 have HN := H_ (lcnone_at h); have c29 := cellOf h.x 29 (.int .i64 now) rfl; clear h; go_enter Tryz.func11, Tryz.ntmps11
 go_wp2_with (go_at_call 20; refine HN.out.mono ?_; rintro e w1 ⟨rfl, rfl⟩)
 go_ret; exact ⟨rfl, Below.refl _ _⟩
theorem lLines_at (h : LC w c l lb tb cb lm ps pv now) : Calls Tryz.prog 10 #[.pointer (some ⟨lb, 0, none⟩)] w fun e w' => e = .returned (.slice none 0 0) /\ Below w.heap.size w w' := by
 have HN := H_ (lcnone_at h); have HF := H_ (lsorted_at h); clear h; go_enter Tryz.func10, Tryz.ntmps10
 go_wp2_with (first | (go_at_call 20; refine HN.out.mono ?_; rintro e w1 ⟨rfl, rfl⟩) | (go_at_call 21; refine HF.out.mono ?_; rintro e w1 ⟨rfl, b1⟩; have HB := H_ b1; clear b1))
 refine wp_loop_rounds 1 ?_; rw [rounds_succ]; go_wp2_with fail; go_ret; exact ⟨rfl, HB.out⟩
theorem lTunnels_at (h : LC w c l lb tb cb lm ps pv now) (hm : l.length <= 1000000) : Calls Tryz.prog 9 #[.pointer (some ⟨lb, 0, none⟩)] w fun e w' => ∃ v, e = .returned v /\ ZRow w' w.heap.size v l.length /\ Below w.heap.size w w' := by
 have HN := H_ (lcnone_at h); have q1 : ∀ w, (binOp .eql 66 (.pointer none) (.pointer none)).run Tryz.prog w = .ok (.bool true) w := fun w => by kernel_rfl
 have q2 : ∀ w, (binOp .neq 66 (.pointer none) (.pointer none)).run Tryz.prog w = .ok (.bool false) w := fun w => by kernel_rfl
 obtain ⟨sa, sc, hpv, hat⟩ := h.form; subst hpv; have HA := H_ hat; obtain ⟨len, hln⟩ : ∃ len, len = l.length := ⟨_, rfl⟩; have c27 : w.cell? ⟨lb, 27, none⟩ = some (.slice sa len sc) := by rw [hln]; exact cellOf h.x 27 _ rfl
 have HLN := H_ hln; rw [<- hln] at hm ⊢; clear h hat hln; go_enter Tryz.func9, Tryz.ntmps9
 go_wp2_with (go_at_call 20; refine HN.out.mono ?_; rintro e w1 ⟨rfl, rfl⟩)
 go_loopg [3, 14] len (fun x r i wr => ∃ k : Nat, k <= len /\ x = len - k /\ i = .int .i64 k /\ Hid (ZRow wr w.heap.size r k /\ Below w.heap.size w wr))
 case atStart => exact ⟨0, by omega, by omega, rfl, H_ ⟨ZRow.nil _ _, Below.refl _ _⟩⟩
 case round =>
  obtain ⟨k, hk, rfl, rfl, hK⟩ := hrel; have HK := H_ hK.out; clear hK
  by_cases hkl : k < len
  . obtain ⟨b, off, d, rfl, -, hc⟩ := HA.out k (by have := HLN.out; omega); obtain ⟨d0, d1, d2⟩ := hc wr HK.out.2; have hb1 := (Below.refl wr.heap.size wr).alloc (Nat.le_refl _) (.cells #[.int .i64 0] 3 (0, 0)); have HZ := H_ (A_ (HK.out.1.below hb1) (A_ (at1 wr (.cells #[.int .i64 0] 3 (0, 0))) (HK.out.2.trans (hb1.mono HK.out.2.size)))); have hk9 : k <= 1000000 := by omega
    clear hc hb1
    go_wp2_with (at_builtin; refine wpl_append_z rfl _ _ rfl u3 k rfl HZ.out.1 _ 1 rfl HZ.out.2.1 hk9 HZ.out.2.2.size ?_)
    intro g cap w' hr' hk' hg'; have HA9 := H_ (A_ hr' (HZ.out.2.2.trans (hk'.below HZ.out.2.2.size (fun j hj e => by have := (HZ.out.1.lt _ e).2; omega)))); clear hr' hk' hg'; go_wp2_with fail
    go_roundg (len - (k + 1))
    case measure => omega
    case rel => exact ⟨k + 1, by omega, rfl, by go_num, H_ HA9.out⟩
  . obtain rfl : len = k := by omega
    go_wp2_with fail; go_ret; exact ⟨_, rfl, HK.out⟩
theorem lOut_at (h : LC w c l lb tb cb lm ps pv now) (hm : l.length <= 1000000) : Calls Tryz.prog 8 #[.pointer (some ⟨lb, 0, none⟩)] w fun e w' => e = .returned (.tuple #[.slice none 0 0, .slice none 0 0]) /\ Below w.heap.size w w' := by
 have HN := H_ (lcnone_at h); have q1 : ∀ w, (binOp .eql 66 (.pointer none) (.pointer none)).run Tryz.prog w = .ok (.bool true) w := fun w => by kernel_rfl
 have q2 : ∀ w, (binOp .neq 66 (.pointer none) (.pointer none)).run Tryz.prog w = .ok (.bool false) w := fun w => by kernel_rfl
 obtain ⟨sa, sc, hpv, hat⟩ := h.form; subst hpv; have HA := H_ hat; obtain ⟨len, hln⟩ : ∃ len, len = l.length := ⟨_, rfl⟩; have c27 : w.cell? ⟨lb, 27, none⟩ = some (.slice sa len sc) := by rw [hln]; exact cellOf h.x 27 _ rfl
 have c33 : w.cell? ⟨lb, 33, none⟩ = some (.slice none 0 0) := cellOf h.x 33 _ rfl; have c34 : w.cell? ⟨lb, 34, none⟩ = some (.slice none 0 0) := cellOf h.x 34 _ rfl; have e33 : w.setCell ⟨lb, 33, none⟩ (.slice none 0 0) = w := setCell_same h.x rfl; have e34 : w.setCell ⟨lb, 34, none⟩ (.slice none 0 0) = w := setCell_same h.x rfl; have f33 := frozen_of_block h.x 33; have f34 := frozen_of_block h.x 34; have HLN := H_ hln; rw [<- hln] at hm; clear h hat hln; go_enter Tryz.func8, Tryz.ntmps8
 go_wp2_with (go_at_call 20; refine HN.out.mono ?_; rintro e w1 ⟨rfl, rfl⟩)
 go_loopg [4, 19] len (fun x r i wr => ∃ k : Nat, k <= len /\ x = len - k /\ r = .slice none 0 0 /\ i = .int .i64 k /\ w = wr)
 case atStart => exact ⟨0, by omega, by omega, rfl, rfl, rfl⟩
 case round =>
  obtain ⟨k, hk, rfl, rfl, rfl, rfl⟩ := hrel
  by_cases hkl : k < len
  . obtain ⟨b, off, d, rfl, -, hc⟩ := HA.out k (by have := HLN.out; omega); obtain ⟨d0, d1, d2⟩ := hc w (Below.refl _ _); clear hc; go_wp2_with fail; refine wp_loop_rounds 1 ?_; rw [rounds_succ]; go_wp2_with fail
    go_roundg (len - (k + 1))
    case measure => omega
    case rel => exact ⟨k + 1, by omega, rfl, rfl, by go_num, rfl⟩
  . go_wp2_with fail; go_ret2; exact ⟨rfl, Below.refl _ _⟩
end
def cfg26 (auth : Int) (a : Option Addr) (l n : Nat) : LaC := ⟨2, 0, 0, 0, 1, 0, ⟨#[97, 99]⟩, ⟨#[107]⟩, none, 0, 0, 20, 1, auth, 1492, 1001, 30, 5, 2, 5, 3, 3, 4, 20, 20, false, a, l, n⟩
theorem build_cfg26 (auth : Int) (w : World) : (Instr.build 27 #[(0, .agg #[.int .u8 2, .int .u8 0, .int .u8 0, .int .u8 0, .int .u8 1, .int .u8 0]), (1, .string ⟨#[97, 99]⟩), (2, .string ⟨#[107]⟩), (4, .int .i64 20), (5, .int .i64 1), (6, .int .i64 auth), (7, .int .i64 1492), (8, .int .i64 1001), (9, .int .i64 30), (10, .int .i64 5), (11, .int .i64 2), (12, .int .i64 5), (13, .int .i64 3), (14, .int .i64 3), (15, .int .i64 4), (16, .int .i64 20), (17, .int .i64 20)]).run Tryz.prog w = .ok (.agg (cfg26 auth none 0 0).cells) w := by kernel_rfl
def zc25 : Array Value := List.toArray (.int .u8 0 :: .int .u8 0 :: .int .u8 0 :: .int .u8 0 :: .int .u8 0 :: .int .u8 0 :: .string ⟨#[]⟩ :: .string ⟨#[]⟩ :: .slice none 0 0 :: .int .i64 0 :: .int .i64 0 :: .int .i64 0 :: .int .i64 0 :: .int .i64 0 :: .int .i64 0 :: .int .i64 0 :: .int .i64 0 :: .int .i64 0 :: .int .i64 0 :: .int .i64 0 :: .int .i64 0 :: .int .i64 0 :: .int .i64 0 :: .bool false :: .slice none 0 0 :: [])
theorem run_alloc25 (w : World) : (Instr.alloc 27 true (.tuple #[])).run Tryz.prog w = .ok (.pointer (some ⟨w.heap.size, 0, none⟩)) (w.alloc (.cells zc25 27 (0, 0))) := by kernel_rfl
theorem lwpl_alloc25 {ops : Array Oper} {rest : List Oper} {Q : Exit -> Act -> World -> Prop} {a : Act} {w : World} {d : Tmp} {t1 : TypeId} {p1 : String} {f1 : Array Edge}
 (h : wpList Tryz.prog ops Q rest (a.put (some d) (.pointer (some ⟨w.heap.size, 0, none⟩))) (w.alloc (.cells zc25 27 (0, 0)))) :
 wpList Tryz.prog ops Q ({ dst := some d, op := .alloc 27, type := t1, pos := p1, after := f1, guard := none } :: rest) a w := by
 refine Go.Tg.step_val (v := .pointer (some ⟨w.heap.size, 0, none⟩)) (w' := w.alloc (.cells zc25 27 (0, 0))) rfl ?_ h; simp only [execOp, run_alloc25, Sem.run_bind, Result.andThen_ok, Sem.run_pure]
theorem lwpl_build25 {ops : Array Oper} {rest : List Oper} {Q : Exit -> Act -> World -> Prop} {a : Act} {w : World} (auth : Int) {d : Tmp} {o0 o6 : Operand} {t1 : TypeId} {p1 : String} {f1 : Array Edge}
 (e0 : a.eval o0 = .agg #[.int .u8 2, .int .u8 0, .int .u8 0, .int .u8 0, .int .u8 1, .int .u8 0]) (e6 : a.eval o6 = .int .i64 auth)
 (h : wpList Tryz.prog ops Q rest (a.put (some d) (.agg (cfg26 auth none 0 0).cells)) w) :
 wpList Tryz.prog ops Q ({ dst := some d, op := .build 27 #[(0, o0), (1, .const (.string ⟨#[97, 99]⟩)), (2, .const (.string ⟨#[107]⟩)), (4, .const (.int .i64 20)), (5, .const (.int .i64 1)), (6, o6), (7, .const (.int .i64 1492)), (8, .const (.int .i64 1001)), (9, .const (.int .i64 30)), (10, .const (.int .i64 5)), (11, .const (.int .i64 2)), (12, .const (.int .i64 5)), (13, .const (.int .i64 3)), (14, .const (.int .i64 3)), (15, .const (.int .i64 4)), (16, .const (.int .i64 20)), (17, .const (.int .i64 20))], type := t1, pos := p1, after := f1, guard := none } :: rest) a w := by
 refine Go.Tg.step_val (v := .agg (cfg26 auth none 0 0).cells) (w' := w) rfl ?_ h; have hc : ∀ v, a.eval (.const v) = v := fun v => rfl; simp only [execOp, List.map_toArray, List.map_cons, List.map_nil, hc, e0, e6, Sem.run_bind, build_cfg26, Result.andThen_ok, Sem.run_pure]
theorem cfg26_srv (auth : Int) (a a' : Option Addr) (l n l' n' : Nat) : (cfg26 auth a l n).cells.setIfInBounds 24 (.slice a' l' n') = (cfg26 auth a' l' n').cells := by kernel_rfl
def SvRow (w : World) (B : Nat) (v : Value) (l : List Sv) : Prop := w.ownsRow B 45 3 v l.length (svL l).flatten
theorem SvRow.nil (w : World) (B : Nat) : SvRow w B (.slice none 0 0) [] := World.ownsRow_nil _ _ _ _
theorem SvRow.keep {w w' : World} {B : Nat} {v : Value} {l : List Sv} {T : Nat -> Prop} (h : SvRow w B v l) (hk : Keep T w w') (hT : ∀ k, v.ownBlock = some k -> ¬ T k) : SvRow w' B v l := by
 obtain ⟨h0, h | ⟨g, cap, cur, hv, h1, h2, h3⟩⟩ := h
 . exact ⟨h0, Or.inl h⟩
 . have hlt := (Array.getElem?_eq_some_iff.1 h2).1; exact ⟨h0, Or.inr ⟨g, cap, cur, hv, h1, (hk.block g hlt (hT g (by rw [hv]; rfl))).trans h2, h3⟩⟩
theorem SvRow.below {w w' : World} {B : Nat} {v : Value} {l : List Sv} (h : SvRow w B v l) (hb : Below w.heap.size w w') : SvRow w' B v l := h.keep (Keep.of_below (fun _ => False) hb) (fun _ _ h => h)
theorem SvRow.lt {w : World} {B : Nat} {v : Value} {l : List Sv} (h : SvRow w B v l) : ∀ k, v.ownBlock = some k -> k < w.heap.size /\ B <= k := by
 intro k hk; have := World.ownsRow.lt h k hk; exact ⟨this.2, this.1⟩
theorem sv_info : ∃ i z, Tryz.prog.info? 45 = some i /\ i.zero = some z /\ i.size = 3 /\ i.bytes = 40 /\ z.cells.size = 3 := by
 have h : (Tryz.prog.info? 45).map (fun i => (i.zero, i.size, i.bytes)) = some (some (.agg #[.int .i64 0, .string ⟨#[]⟩, .string ⟨#[]⟩]), 3, 40) := by kernel_rfl
 obtain ⟨i, hi, he⟩ := Option.map_eq_some_iff.1 h; simp only [Prod.mk.injEq] at he; exact ⟨i, _, hi, he.1, he.2.1, he.2.2, rfl⟩
theorem svL_app (a b : List Sv) : (svL (a ++ b)).flatten = (svL a).flatten ++ (svL b).flatten := by simp [svL]
theorem wpl_append_sv {B : Nat} {w : World} {ops : Array Oper} {rest : List Oper} {o : Oper} {a : Act} {Q : Exit -> Act -> World -> Prop} (hgd : o.guard = none) (s x : Operand)
 (ho : o.op = .call { callee := .builtin .append, args := #[s, x], argTypes := #[25, 25] }) (v : Value) (l : List Sv) (hs : a.eval s = v) (hown : SvRow w B v l)
 (bx c : Nat) (d : Sv) (hx : a.eval x = .slice (some ⟨bx, 0, none⟩) 1 c) (hb : w.heap[bx]? = some (.cells #[.int .i64 d.node, .string d.secret, .string d.realm] 45 (0, 0))) (hlen : l.length <= 1000000) (hW : B <= w.heap.size)
 (h : ∀ g cap w', SvRow w' B (.slice (some ⟨g, 0, none⟩) (l.length + 1) cap) (l ++ [d]) -> Keep (fun k => v.ownBlock = some k) w w' -> (v.ownBlock = some g \/ g = w.heap.size) -> wpList Tryz.prog ops Q rest (a.put o.dst (.slice (some ⟨g, 0, none⟩) (l.length + 1) cap)) w') : wpList Tryz.prog ops Q (o :: rest) a w := by
 obtain ⟨i, z, hi, hz, hsz, hby, hzs⟩ := sv_info
 refine wpList_append_lies (P := Tryz.prog) (w := w) hgd s x 25 ho B 45 i z 3 40 Tryz.underlying25 hi hz hsz hby hzs (by decide) v l.length (svL l).flatten hs hown ⟨bx, 0, none⟩ 1 c [.int .i64 d.node, .string d.secret, .string d.realm] hx rfl
  (World.news_of_block hb) (by intro u hu; simp only [List.mem_cons, List.not_mem_nil, or_false] at hu; rcases hu with rfl | rfl | rfl <;> rfl) (by decide) (by unfold maxLen; omega) (by omega) hW w.heap.size rfl ?_
 intro g cap w' h1 h2 h3 _; exact h g cap w' (by unfold SvRow; rw [List.length_append, svL_app]; exact h1) (keep_of_grown h2) h3
def sv26 (k : Nat) : Sv := ⟨2 + k, ⟨#[116]⟩, ⟨#[]⟩⟩
structure CI (w W Y : World) (auth : Int) (k : Nat) (a : Option Addr) (n : Nat) : Prop where
 x : Y.heap[w.heap.size + 1]? = some (.cells (cfg26 auth a k n).cells 27 (0, 0))
 r : SvRow Y W.heap.size (.slice a k n) ((List.range k).map sv26)
 b : Below w.heap.size w Y
 z : Y.heap[w.heap.size]? = some (.cells zc25 27 (0, 0))
 s : W.heap.size <= Y.heap.size
theorem results_cell_mid {P : Program} {fn : Func} {p : Tmp} {ty : TypeId} (h : fn.results = #[.cell p ty]) (tmps : Array Value) (w : World) (g : Nat) (cs : List Value) (d : TypeDesc)
 (hp : tmps.getD p undef = .pointer (some ⟨g, 0, none⟩)) (hg : w.rangeAt g 0 cs)
 (hu : P.underlying ty = some d) (hd : d.isRow = true) (hi : (P.info? ty).map (·.size) = some cs.length) :
 (results fn tmps).run P w = .ok (.agg cs.toArray) w := by
 have hp' : tmps[p]?.getD undef = .pointer (some ⟨g, 0, none⟩) := by simpa using hp
 simp [results, h, hp', asAddr, run_loadVar_mid w g 0 ty cs d hg hu hd hi]
theorem below_setCells {B : Nat} {w : World} {g : Nat} (hg : B <= g) : ∀ (vs : List Value) (o : Nat) (Y : World), Below B w Y -> Below B w (Y.setCells g o vs)
 | [], _, _, h => h
 | v :: vs, o, Y, h => below_setCells hg vs (o + 1) _ (h.setCell (p := ⟨g, o, none⟩) hg v)
theorem keep_setCells {w : World} {g : Nat} : ∀ (vs : List Value) (o : Nat) (Y : World), Keep (fun x => x = g) w Y -> Keep (fun x => x = g) w (Y.setCells g o vs)
 | [], _, _, h => h
 | v :: vs, o, Y, h => keep_setCells vs (o + 1) _ (h.trans (keepSet Y g o v))
theorem CI.below {w W Y Y' : World} {auth : Int} {k n : Nat} {a : Option Addr} (h : CI w W Y auth k a n) (b : Below Y.heap.size Y Y') : CI w W Y' auth k a n := by
 have up : ∀ {k o}, Y.heap[k]? = some o -> Y'.heap[k]? = Y.heap[k]? := fun hk => b.block _ (Array.getElem?_eq_some_iff.1 hk).1; exact ⟨(up h.x).trans h.x, h.r.below b, h.b.trans (b.mono h.b.size), (up h.z).trans h.z, Nat.le_trans h.s b.size⟩
theorem CI.app {w W Y w' : World} {auth : Int} {k n g cap : Nat} {a : Option Addr} (hW : W.heap.size = w.heap.size + 1 + 1) (h : CI w W Y auth k a n)
 (hr : SvRow w' W.heap.size (.slice (some ⟨g, 0, none⟩) (k + 1) cap) ((List.range k).map sv26 ++ [sv26 k])) (hk : Keep (fun j => (Value.slice a k n).ownBlock = some j) Y w') (hg : (Value.slice a k n).ownBlock = some g \/ g = Y.heap.size) :
 CI w W (w'.setCell ⟨w.heap.size + 1, 24, none⟩ (.slice (some ⟨g, 0, none⟩) (k + 1) cap)) auth (k + 1) (some ⟨g, 0, none⟩) cap /\ w'.heap[w.heap.size + 1]? = some (.cells (cfg26 auth a k n).cells 27 (0, 0)) := by
 have hlt : ∀ {k o}, Y.heap[k]? = some o -> k < Y.heap.size := fun hk => (Array.getElem?_eq_some_iff.1 hk).1; have hx : w'.heap[w.heap.size + 1]? = _ := (hk.block _ (hlt h.x) (fun e => by have := (h.r.lt _ e).2; omega)).trans h.x; have hz : w'.heap[w.heap.size]? = _ := (hk.block _ (hlt h.z) (fun e => by have := (h.r.lt _ e).2; omega)).trans h.z
 have hgb : W.heap.size <= g := by
  rcases hg with hg | hg
  . exact (h.r.lt _ hg).2
  . rw [hg]; exact h.s
 refine ⟨⟨?_, ?_, ?_, ?_, ?_⟩, hx⟩
 . have := blkSet (v := .slice (some ⟨g, 0, none⟩) (k + 1) cap) (i := 24) hx; rw [cfg26_srv] at this; exact this
 . rw [List.range_succ, List.map_append]
   exact hr.keep (keepSet w' (w.heap.size + 1) 24 _) (fun j hj e => by
    have h1 : g = j := by simpa [Value.ownBlock] using hj
    have h2 : j = w.heap.size + 1 := e
    omega)
 . exact (h.b.trans (hk.below h.b.size (fun j hj e => by have := (h.r.lt _ e).2; omega))).setCell (p := ⟨w.heap.size + 1, 24, none⟩) (by show w.heap.size <= w.heap.size + 1; omega) _
 . rw [Go.Deep.blk_setCell_other _ _ _ _ (by show w.heap.size ≠ w.heap.size + 1; omega)]; exact hz
 . rw [Go.Deep.nblk_setCell]; exact Nat.le_trans h.s hk.size
set_option maxRecDepth 100000 in
theorem config26 (auth : Int) (w : World) : Calls Tryz.prog 12 #[.int .i64 auth, .int .i64 2] w fun e w' => ∃ a n, e = .returned (.agg (cfg26 auth a 2 n).cells) /\ Svs w' (fun _ => True) (.slice a 2 n) [sv26 0, sv26 1] /\ Below w.heap.size w w' := by
 obtain ⟨W, hW⟩ : ∃ W, W = (w.alloc (.cells zc25 27 (0, 0))).alloc (.cells (cfg26 auth none 0 0).cells 27 (0, 0)) := ⟨_, rfl⟩; have b1 : Below w.heap.size w W := by rw [hW]; exact ((Below.refl _ _).alloc (Nat.le_refl _) _).alloc (by rw [alloc1]; omega) _
 have x0 : W.heap[w.heap.size]? = some (.cells zc25 27 (0, 0)) := by rw [hW]; exact at20 _ _ _
 have x1 : W.heap[w.heap.size + 1]? = some (.cells (cfg26 auth none 0 0).cells 27 (0, 0)) := by rw [hW]; exact at21 _ _ _
 have hsz : W.heap.size = w.heap.size + 1 + 1 := by rw [hW, alloc1, alloc1]
 have HX := H_ (A_ b1 (A_ x0 (A_ x1 hsz))); clear b1 x0 x1 hsz; go_enter Tryz.func12, Tryz.ntmps12
 go_upto_region 2 with (first | (refine lwpl_cfgalloc (cfg26 auth none 0 0) (by rfl) (by rfl) ?_) | (refine lwpl_alloc25 ?_) | (refine lwpl_build25 auth (by rfl) (by rfl) ?_))
 try simp only [World.heap_size_alloc]
 rw [<- hW]; clear hW; go_wp2_with fail
 go_loopg [6] 2 (fun x i Y => ∃ k n : Nat, ∃ a : Option Addr, k <= 2 /\ x = 2 - k /\ i = .int .i64 k /\ Hid (CI w W Y auth k a n))
 case atStart => exact ⟨0, 0, none, by omega, by omega, rfl, H_ ⟨HX.out.2.2.1, SvRow.nil _ _, HX.out.1, HX.out.2.1, Nat.le_refl _⟩⟩
 case round =>
  obtain ⟨k, n, a, hk, rfl, rfl, hK⟩ := hrel; have HK := H_ hK.out; clear hK
  by_cases hk2 : k < 2
  . have e1 : wrap64 (2 + (k : Int)) = 2 + (k : Int) := by unfold wrap64; omega
    have dd : decide ((k : Int) < 2) = true := by simp; omega
    have hb1 := (Below.refl wr.heap.size wr).alloc (Nat.le_refl _) (.cells #[.int .i64 (2 + (k : Int)), .string ⟨#[116]⟩, .string ⟨#[]⟩] 45 (0, 0)); have c24 := cellOf HK.out.x 24 (.slice a k n) rfl; have HK1 := H_ (A_ (HK.out.below hb1) (at1 wr (.cells #[.int .i64 (2 + (k : Int)), .string ⟨#[116]⟩, .string ⟨#[]⟩] 45 (0, 0)))); have hl : ((List.range k).map sv26).length = k := by simp
    have hr0 : SvRow (wr.alloc (.cells #[.int .i64 (2 + (k : Int)), .string ⟨#[116]⟩, .string ⟨#[]⟩] 45 (0, 0))) W.heap.size (.slice a k n) ((List.range k).map sv26) := HK1.out.1.r; have hle : ((List.range k).map sv26).length <= 1000000 := by omega
    have HR := H_ (A_ hr0 (A_ hle hl)); clear hb1 hl hr0 hle
    go_wp2_with (at_builtin; refine wpl_append_sv rfl _ _ rfl (.slice a k n) ((List.range k).map sv26) rfl HR.out.1 wr.heap.size 1 (sv26 k) rfl HK1.out.2 HR.out.2.1 HK1.out.1.s ?_)
    intro g cap w' hr' hk' hg'
    try rw [HR.out.2.2] at hr' ⊢
    obtain ⟨hA, hx'⟩ := CI.app HX.out.2.2.2 HK1.out.1 hr' hk' (by rw [alloc1]; exact hg'); have HA := H_ hA; have f24 := frozen_of_block hx' 24; have c24' := cellOf hx' 24 (.slice a k n) rfl; clear hA hx' hr' hk' hg' c24; go_wp2_with fail
    go_roundg (2 - (k + 1))
    case measure => omega
    case rel => exact ⟨k + 1, cap, _, by omega, rfl, by go_num, H_ HA.out⟩
  . obtain rfl : k = 2 := by omega
    have HRG := H_ (lcfg_range HK.out.x)
    have hth : wr.there w.heap.size 0 (cfg26 auth a 2 n).cells.size := fun j hj => by
     have hj' : j < 25 := hj; refine ⟨?_, frozen_of_block HK.out.z _⟩; rw [cell_of_row wr w.heap.size (0 + j) _ _ _ HK.out.z, Array.getElem?_eq_getElem (by rw [Nat.zero_add]; exact hj')]; rfl
    have HTH := H_ hth; clear hth
    go_wp2_with (first | (refine lwpl_cfgload rfl _ rfl (w.heap.size + 1) (by rfl) (cfg26 auth a 2 n) HRG.out ?_) | (refine wpList_store_mid rfl 27 _ _ rfl w.heap.size 0 (cfg26 auth a 2 n).cells (by rfl) (by rfl) HTH.out (by rw [lcfg_cells, lcfg_sz]) (lcfg_one _) ?_))
    refine bodyPost_ret (results_cell_mid rfl _ _ w.heap.size (cfg26 auth a 2 n).cells.toList _ rfl (World.rangeAt_setCells_same _ _ _ _ HTH.out) Tryz.underlying27 rfl (by rw [lcfg_cells]; rfl)) rfl ?_; refine ⟨a, n, ?_, ?_, below_setCells (Nat.le_refl _) _ _ _ HK.out.b⟩
    . rw [Array.toArray_toList]
    . have hr : Rec 3 wr (fun b => W.heap.size <= b) (.slice a 2 n) (svL ((List.range 2).map sv26)) := Rec.of_owns HK.out.r (svL_len _).symm (svL_k _) (by unfold maxLen; simp); have hr2 : Rec 3 wr (fun b => W.heap.size <= b) (.slice a 2 n) (svL [sv26 0, sv26 1]) := hr; exact (Rec.keep (T := fun x => x = w.heap.size) hr2 (keep_setCells _ _ _ (Keep.refl _ _)) (fun b _ hb e => by have := HX.out.2.2.2; omega)).mono (fun _ _ => trivial)
theorem kvAc0 : KV Tryz.prog 49 (.agg #[.int .u8 0, .int .u8 0, .int .u8 0, .int .u8 0, .int .u8 0, .int .u8 0, .int .i64 0]) := by
 have h : (keyOf Tryz.prog 49 (.agg #[.int .u8 0, .int .u8 0, .int .u8 0, .int .u8 0, .int .u8 0, .int .u8 0, .int .i64 0])).isSome = true := by kernel_rfl
 exact Option.isSome_iff_exists.1 h
set_option maxRecDepth 100000 in
theorem lClose_at {w : World} {c : LaC} {l : List Sv} {lb tb cb lm : Nat} {ps : List Nat} {pv : Value} {now : Int} (h : LC w c l lb tb cb lm ps pv now) : Calls Tryz.prog 13 #[.pointer (some ⟨lb, 0, none⟩), .agg #[.int .u8 0, .int .u8 0, .int .u8 0, .int .u8 0, .int .u8 0, .int .u8 0, .int .i64 0]] w fun e w' => e = .returned (.int .i64 3) /\ Below w.heap.size w w' := by
 have hb1 : Below w.heap.size w (w.alloc (.cells #[.int .u8 0, .int .u8 0, .int .u8 0, .int .u8 0, .int .u8 0, .int .u8 0, .int .i64 0] 49 (0, 0))) := (Below.refl _ _).alloc (Nat.le_refl _) _; have x1 := at1 w (.cells #[.int .u8 0, .int .u8 0, .int .u8 0, .int .u8 0, .int .u8 0, .int .u8 0, .int .i64 0] 49 (0, 0)); obtain ⟨W, hW⟩ : ∃ W, W = w.alloc (.cells #[.int .u8 0, .int .u8 0, .int .u8 0, .int .u8 0, .int .u8 0, .int .u8 0, .int .i64 0] 49 (0, 0)) := ⟨_, rfl⟩; rw [<- hW] at hb1 x1; have c0 := cell_regrown (cellOf x1 0 (.int .u8 0) rfl); have c1 := cell_regrown (cellOf x1 1 (.int .u8 0) rfl); have c2 := cell_regrown (cellOf x1 2 (.int .u8 0) rfl); have c3 := cell_regrown (cellOf x1 3 (.int .u8 0) rfl); have c4 := cell_regrown (cellOf x1 4 (.int .u8 0) rfl); have c5 := cell_regrown (cellOf x1 5 (.int .u8 0) rfl); have c6 := cell_regrown (cellOf x1 6 (.int .i64 0) rfl); have c28 := cell_regrown (cellOf (h.keep hb1).x 28 (.map (some lm)) rfl); have HN := H_ (fun (d : Nat) (os : Array Obj) => (lcnone_at (h.grown hb1 d os)).mono (fun e w' hq => (⟨hq.1, hq.2 ▸ Below.refl _ _⟩ : e = .returned (.bool false) /\ Below (Go.Sort.grow (redrawn W d) os).heap.size (Go.Sort.grow (redrawn W d) os) w'))); have L : ∀ d os, (Instr.lookup 52 (.map (some lm)) (.agg #[.int .u8 0, .int .u8 0, .int .u8 0, .int .u8 0, .int .u8 0, .int .u8 0, .int .i64 0]) false).run Tryz.prog (Go.Sort.grow (redrawn W d) os) = .ok (.pointer none) (Go.Sort.grow (redrawn W d) os) := fun d os => (mapNoneL (K := 49) (h.grown hb1 d os).m).run_lookup keyedAc Tryz.underlying52 kvAc0 (zLine _) false; have q1 : ∀ w, (binOp .eql 74 (.pointer none) (.pointer none)).run Tryz.prog w = .ok (.bool true) w := fun w => by kernel_rfl
 have HB := H_ hb1; clear h hb1 x1; go_enter Tryz.func13, Tryz.ntmps13
 go_upto_region 1 with (fail)
 rw [<- hW]; clear hW; refine wp_region_quiet_below (by kernel_rfl) (by kernel_rfl) ?_
 repeat (
  with_reducible refine wpQuiet_step (fun K hK => ?_)
  go_simp
  first
   | (refine hK _ ?_; clear hK K)
   | (
    apply Exists.intro
    refine ⟨fun _ => ?_, hK _ ?_⟩
    (first | (go_at_call 20; exact Calls.regrown_of (HN.out _ _)))
    clear hK K))
 refine wpQuiet_nil ?_; rintro _ ⟨⟨nq, osq⟩, rfl⟩; have HB2 := H_ (HB.out.trans ((below_regrown _ nq osq).mono HB.out.size)); go_wp2_with fail; go_ret; exact ⟨rfl, HB2.out⟩
theorem lok26 : (⟨1492, 49699, 1001, 0, 5, 2, 5, 3⟩ : LCfg).Ok := ⟨by decide, .inr (.inr rfl), by decide, by decide, by decide, by decide, by decide, by decide⟩
theorem tun26 : TunOk ⟨#[97, 99]⟩ ⟨#[116]⟩ 1 4 20 3 3 20 := by unfold TunOk; decide
theorem ac26 : AcOk ⟨#[97, 99]⟩ [] 20 := ⟨by decide, by decide, by decide, (fun s hs => (by cases hs)), by decide, by decide⟩
theorem good26 (a : Option Addr) (n : Nat) : LGood (cfg26 49699 a 2 n) [sv26 0, sv26 1] [] := by
 refine ⟨by kernel_rfl, ac26, lok26, ?_, fun s hs => ?_⟩
 . show (⟨#[97, 99]⟩ : ByteArray).size <= 60 /\ (0 : Int) <= 3 /\ (3 : Int) <= 10 /\ (1 : Int) <= 3 /\ (3 : Int) <= 100
   decide
 . have e : s.secret = ⟨#[116]⟩ := by
    simp only [List.mem_cons, List.not_mem_nil, or_false] at hs
    rcases hs with rfl | rfl <;> rfl
   rw [e]; exact tun26
theorem new26 {w w' : World} {a : Option Addr} {n : Nat} {e : Ending} (h : LNew w w' (cfg26 49699 a 2 n) [sv26 0, sv26 1] [] e) : ∃ lb tb cb lm ps pv, e = .returned (.tuple #[.pointer (some ⟨lb, 0, none⟩), .int .i64 0]) /\ Below w.heap.size w w' /\ w.heap.size <= lb /\ LC w' (cfg26 49699 a 2 n).bare [sv26 0, sv26 1] lb tb cb lm ps pv 0 := by
 obtain ⟨b, ⟨x, -, -, hn⟩ | ⟨lb, tb, cb, lm, ps, pv, he, hlo, hc⟩⟩ := h
 . exact absurd (good26 a n) hn
 . exact ⟨lb, tb, cb, lm, ps, pv, he, b, hlo, hc⟩
theorem ZRow.len {w : World} {B : Nat} {v : Value} {n : Nat} (h : ZRow w B v n) : ∃ sa sc, v = .slice sa n sc := by
 obtain ⟨_, ⟨h, hn⟩ | ⟨g, cp, cur, hv, _⟩⟩ := h
 . exact ⟨none, 0, by rw [h, hn]⟩
 . exact ⟨_, _, hv⟩
set_option maxRecDepth 100000 in
theorem alive26_any (w : World) : Calls Tryz.prog 5 #[] w fun e w' => e = .returned (.bool true) /\ Below w.heap.size w w' := by
 have q1 : ∀ w a, (binOp .eql 30 (.pointer (some a)) (.pointer none)).run Tryz.prog w = .ok (.bool false) w := fun w a => by kernel_rfl
 have HC := H_ (fun w => config26 49699 w); have HN := H_ (fun w a n (hs : Svs w (fun _ => True) (.slice a 2 n) [sv26 0, sv26 1]) => lacNew_any (cfg26 49699 a 2 n) [sv26 0, sv26 1] [] (fun _ => True) (fun _ => True) w hs (Rec.nil _ _ _) (by decide) (by decide) (fun s hs => by simp only [List.mem_cons, List.not_mem_nil, or_false] at hs; rcases hs with rfl | rfl <;> (unfold I64; decide)) (by show I64 49699; unfold I64; decide) (by show I64 1; unfold I64; decide) (fun _ => by show (1 : Nat) <= _; decide)); go_enter Tryz.func5, Tryz.ntmps5
 go_wp2_with (first | (go_at_call 12; refine (HC.out _).mono ?_; rintro e w1 ⟨a, n, rfl, h1, b1⟩; have HS := H_ (A_ h1 b1); clear h1 b1) | (go_at_call 6; refine (HN.out _ _ _ HS.out.1).mono ?_; rintro e w2 h2; obtain ⟨lb, tb, cb, lm, ps, pv, rfl, b2, hlo, h9⟩ := new26 h2; have HX := H_ (A_ (HS.out.2.trans (b2.mono HS.out.2.size)) (A_ (Nat.le_trans HS.out.2.size hlo) h9)); clear h9 h2 b2 hlo) | (go_at_call 7; refine (lTick_at HX.out.2.2 (by decide) (by decide)).mono ?_; rintro e w3 ⟨rfl, h3, k3⟩; have HY := H_ (A_ (HX.out.1.trans (k3.below HX.out.1.size (fun j hj h => by have := HX.out.2.1; omega))) h3); clear h3 k3) | (go_at_call 9; refine (lTunnels_at HY.out.2 (by decide)).mono ?_; rintro e w4 ⟨v, rfl, hz, b4⟩; obtain ⟨za, zc, rfl⟩ := hz.len; have H4 := H_ (A_ (HY.out.1.trans (b4.mono HY.out.1.size)) (HY.out.2.keep b4)); clear hz b4) | (go_at_call 11; refine (lNow_at H4.out.2).mono ?_; rintro e w5 ⟨rfl, b5⟩; have H5 := H_ (A_ (H4.out.1.trans (b5.mono H4.out.1.size)) (H4.out.2.keep b5)); clear b5) | (go_at_call 10; refine (lLines_at H5.out.2).mono ?_; rintro e w6 ⟨rfl, b6⟩; have H6 := H_ (A_ (H5.out.1.trans (b6.mono H5.out.1.size)) (H5.out.2.keep b6)); clear b6) | (go_at_call 13; refine (lClose_at H6.out.2).mono ?_; rintro e w7 ⟨rfl, b7⟩; have H7 := H_ (H6.out.1.trans (b7.mono H6.out.1.size)); clear b7))
 go_ret; exact ⟨rfl, H7.out⟩
def opCells26 (n0 n1 n14 n16 n17 n25 : Int) (a0 a1 a2 a3 a4 a5 b0 b1 b2 b3 b4 b5 c0 c1 c2 c3 c4 c5 : UInt8) (s15 s18 : ByteArray) : Array Value := #[.int .i64 n0, .int .i64 n1, .int .u8 (a0.toNat : Int), .int .u8 (a1.toNat : Int), .int .u8 (a2.toNat : Int), .int .u8 (a3.toNat : Int), .int .u8 (a4.toNat : Int), .int .u8 (a5.toNat : Int), .int .u8 (b0.toNat : Int), .int .u8 (b1.toNat : Int), .int .u8 (b2.toNat : Int), .int .u8 (b3.toNat : Int), .int .u8 (b4.toNat : Int), .int .u8 (b5.toNat : Int), .int .i64 n14, .string s15, .int .i64 n16, .int .i64 n17, .string s18, .int .u8 (c0.toNat : Int), .int .u8 (c1.toNat : Int), .int .u8 (c2.toNat : Int), .int .u8 (c3.toNat : Int), .int .u8 (c4.toNat : Int), .int .u8 (c5.toNat : Int), .int .i64 n25]
def lacZ : Array Value := List.toArray (.int .u8 0 :: .int .u8 0 :: .int .u8 0 :: .int .u8 0 :: .int .u8 0 :: .int .u8 0 :: .string ⟨#[]⟩ :: .string ⟨#[]⟩ :: .slice none 0 0 :: .int .i64 0 :: .int .i64 0 :: .int .i64 0 :: .int .i64 0 :: .int .i64 0 :: .int .i64 0 :: .int .i64 0 :: .int .i64 0 :: .int .i64 0 :: .int .i64 0 :: .int .i64 0 :: .int .i64 0 :: .int .i64 0 :: .int .i64 0 :: .bool false :: .slice none 0 0 :: .pointer none :: .pointer none :: .slice none 0 0 :: .map none :: .int .i64 0 :: .int .u16 0 :: .int .u16 0 :: .int .i64 0 :: .slice none 0 0 :: .slice none 0 0 :: [])
set_option maxRecDepth 100000 in
theorem small_any (c : LaC) (l : List Sv) (ls : List ByteArray) (ok ok2 : Nat -> Prop) (w : World) (hl : Svs w ok (.slice c.srva c.srvl c.srvc) l) (hs : Strs w ok2 (.slice c.sva c.svl c.svc) ls) (hn : c.name.size <= 140737488351232) (hk : c.cookie.size <= 140737488351232) :
 Calls Tryz.prog 4 #[.agg c.cells] w fun e w' => ∃ b, e = .returned (.bool b) /\ Below w.heap.size w w' /\ (b = true -> l.length <= 8 /\ ls.length <= 12 /\ c.cookie.size <= 300) := by
 obtain ⟨W, hW⟩ : ∃ W, W = w.alloc (.cells c.cells 27 (0, 0)) := ⟨_, rfl⟩; have b1 : Below w.heap.size w W := by rw [hW]; exact (Below.refl _ _).alloc (Nat.le_refl _) _
 have x0 : W.heap[w.heap.size]? = some (.cells c.cells 27 (0, 0)) := by rw [hW]; exact at1 _ _
 have hsz : W.heap.size = w.heap.size + 1 := by rw [hW, alloc1]
 have HX := H_ (A_ b1 (A_ x0 hsz)); obtain ⟨sa, hsa⟩ : ∃ sa, sa = c.srva := ⟨_, rfl⟩; obtain ⟨sc, hsc⟩ : ∃ sc, sc = c.srvc := ⟨_, rfl⟩; obtain ⟨len, hln⟩ : ∃ len, len = l.length := ⟨_, rfl⟩; obtain ⟨len2, hln2⟩ : ∃ len2, len2 = ls.length := ⟨_, rfl⟩; obtain ⟨sa2, hsa2⟩ : ∃ sa2, sa2 = c.sva := ⟨_, rfl⟩; obtain ⟨sc2, hsc2⟩ : ∃ sc2, sc2 = c.svc := ⟨_, rfl⟩
 have hlen : c.srvl = len := by
  obtain ⟨sa, sc, hv, -, -⟩ := hl.form; rw [hln]; exact (Value.slice.inj hv).2.1
 have hlen2 : c.svl = len2 := by
  obtain ⟨sa, sc, hv, -, -⟩ := hs.form; rw [hln2]; exact (Value.slice.inj hv).2.1
 have hR : ∀ Y, Below W.heap.size W Y -> Y.cell? ⟨w.heap.size, 24, none⟩ = some (.slice sa len sc) /\ Y.cell? ⟨w.heap.size, 8, none⟩ = some (.slice sa2 len2 sc2) /\ Y.cell? ⟨w.heap.size, 6, none⟩ = some (.string c.name) /\ Y.cell? ⟨w.heap.size, 7, none⟩ = some (.string c.cookie) := by
  intro Y hY; have xY := (hY.block w.heap.size (by omega)).trans x0; rw [hsa, hsc, hsa2, hsc2, <- hlen, <- hlen2]; exact ⟨cellOf xY 24 _ rfl, cellOf xY 8 _ rfl, cellOf xY 6 _ rfl, cellOf xY 7 _ rfl⟩
 have HR := H_ hR
 have hA : ∀ k, k < len -> ∃ b off, sa = some ⟨b, off, none⟩ /\ ∃ s1 s2 : ByteArray, ∀ Y, Below w.heap.size w Y -> Y.cell? ⟨b, off + k * 3 + 1, none⟩ = some (.string s1) /\ Y.cell? ⟨b, off + k * 3 + 2, none⟩ = some (.string s2) := by
  intro k hk; obtain ⟨b, off, h1, -, h2⟩ := hl.at k (by rw [<- hln]; exact hk); rw [<- hsa] at h1; exact ⟨b, off, h1, _, _, fun Y hY => (h2 Y hY).2⟩
 have HA := H_ hA; have HLN := H_ (A_ hln (A_ hln2 (A_ hn hk))); have e9 : wrap64 ((c.name.size : Int) + (c.cookie.size : Int)) = (c.name.size : Int) + (c.cookie.size : Int) := by unfold wrap64; omega
 have HE := H_ e9; clear b1 x0 hsz hsa hsc hln hln2 hsa2 hsc2 hlen hlen2 hR hl hs hn hk e9 hA; go_enter Tryz.func4, Tryz.ntmps4
 go_upto_region 1 with (refine lwpl_cfgbox c (by rfl) ?_)
 rw [<- hW]; clear hW; go_wp2_with fail
 go_loopg [3] 9 (fun x i wr => ∃ k : Nat, k <= len /\ k <= 9 /\ x = 9 - k /\ i = .int .i64 k /\ Hid (Below W.heap.size W wr))
 case atStart => exact ⟨0, by omega, by omega, by omega, rfl, H_ (Below.refl _ _)⟩
 case round =>
  obtain ⟨k, hk, hk9, rfl, rfl, hK⟩ := hrel; have HK := H_ hK.out; clear hK; obtain ⟨c24, c8, c6, c7⟩ := HR.out wr HK.out
  by_cases hkl : k < len
  . by_cases hk8 : k < 9
    . have e1 : wrap64 ((k : Int) + 1) = (k : Int) + 1 := by unfold wrap64; omega
      obtain ⟨b, off, rfl, s1, s2, hc⟩ := HA.out k hkl; obtain ⟨d1, d2⟩ := hc wr (HX.out.1.trans (HK.out.mono HX.out.1.size)); clear hc
      by_cases g : (200 : Int) < wrap64 ((s1.size : Int) + (s2.size : Int))
      . have dg : decide ((200 : Int) < wrap64 ((s1.size : Int) + (s2.size : Int))) = true := by simpa using g
        clear g; go_wp2_with fail
        go_quiet (fail)
        go_wp2_with fail; go_ret; exact ⟨_, rfl, belowN (HX.out.1.trans (HK.out.mono HX.out.1.size)) _, fun h => by cases h⟩
      . have dg : decide ((200 : Int) < wrap64 ((s1.size : Int) + (s2.size : Int))) = false := by simpa using g
        clear g; go_wp2_with fail
        go_quiet (fail)
        go_wp2_with fail
        go_roundg (9 - (k + 1))
        case measure => omega
        case rel => exact ⟨k + 1, by omega, by omega, rfl, by go_num, H_ (belowN HK.out _)⟩
    . have d8 : decide ((len : Int) <= 8) = false := by simp; omega
      go_wp2_with fail; go_ret
      first | exact ⟨_, rfl, HX.out.1.trans (HK.out.mono HX.out.1.size), fun h => by cases h⟩ | exact Or.inl ⟨rfl, HX.out.1.trans (HK.out.mono HX.out.1.size)⟩
  . obtain rfl : len = k := by omega
    by_cases h8 : (len : Int) <= 8
    . have d8 : decide ((len : Int) <= 8) = true := by simpa using h8
      by_cases h12 : (len2 : Int) <= 12
      . have d12 : decide ((len2 : Int) <= 12) = true := by simpa using h12
        obtain ⟨b, hb⟩ : ∃ b, decide (wrap64 ((c.name.size : Int) + (c.cookie.size : Int)) <= 300) = b := ⟨_, rfl⟩; have HBB := H_ hb; go_wp2_with fail; go_ret; refine ⟨_, rfl, HX.out.1.trans (HK.out.mono HX.out.1.size), fun h => ⟨?_, ?_, ?_⟩⟩
        . have := HLN.out.1; omega
        . have := HLN.out.2.1; omega
        . have h9 : decide (wrap64 ((c.name.size : Int) + (c.cookie.size : Int)) <= 300) = true := by first | exact h | (rw [HBB.out]; exact h)
          rw [HE.out] at h9; have := of_decide_eq_true h9; omega
      . have d12 : decide ((len2 : Int) <= 12) = false := by simpa using h12
        go_wp2_with fail; go_ret
        first | exact ⟨_, rfl, HX.out.1.trans (HK.out.mono HX.out.1.size), fun h => by cases h⟩ | exact Or.inl ⟨rfl, HX.out.1.trans (HK.out.mono HX.out.1.size)⟩
    . have d8 : decide ((len : Int) <= 8) = false := by simpa using h8
      go_wp2_with fail; go_ret
      first | exact ⟨_, rfl, HX.out.1.trans (HK.out.mono HX.out.1.size), fun h => by cases h⟩ | exact Or.inl ⟨rfl, HX.out.1.trans (HK.out.mono HX.out.1.size)⟩
theorem ZRow.at {w : World} {B n : Nat} {v : Value} (h : ZRow w B v n) (hn : n <= 1000000) : ∃ sa sc, v = .slice sa n sc /\ ∀ k, k < n -> ∃ b off, sa = some ⟨b, off, none⟩ /\ ∀ Y, Below w.heap.size w Y -> Y.cell? ⟨b, off + k, none⟩ = some (.int .i64 0) := by
 obtain ⟨sa, sc, rfl⟩ := h.len; have hz : (zRow n).length = n := by simp [zRow]
 have hR := (Rec.of_owns (k := 1) h hz.symm (fun x hx => by rw [(List.mem_replicate.1 hx).2]; rfl) (by unfold maxLen; omega)).mono (ok' := fun _ => True) (fun _ _ => trivial); refine ⟨sa, sc, rfl, fun k hk => ?_⟩; obtain ⟨b, off, hs, hb, -, -, -, -, hr⟩ := Rec.at hR k (by rw [hz]; exact hk); refine ⟨b, off, hs, fun Y hY => ?_⟩; have := hr 0 (.int .i64 0) (by simp [zRow]); rw [Nat.mul_one, Nat.add_zero] at this; exact (hY.cell (p := ⟨b, off + k, none⟩) hb).trans this
set_option maxRecDepth 100000 in
theorem lacQuiet_any (c : LaC) (l : List Sv) (ls : List ByteArray) (n : Int) (w : World) (hs : Strs w (fun _ => True) (.slice c.sva c.svl c.svc) ls) (hl : Svs w (fun _ => True) (.slice c.srva c.srvl c.srvc) l) (hM : ∀ o ∈ l, I64 o.node /\ o.secret.size <= maxLen /\ o.realm.size <= maxLen) (hI : I64 c.auth) (hnd : I64 c.node) (hn : c.name.size <= 140737488351232) (hk : c.cookie.size <= 140737488351232) :
 Calls Tryz.prog 3 #[.agg c.cells, .int .i64 n] w fun e w' => e = .returned (.bool true) /\ Below w.heap.size w w' := by
 have q1 : ∀ w a, (binOp .eql 30 (.pointer (some a)) (.pointer none)).run Tryz.prog w = .ok (.bool false) w := fun w a => by kernel_rfl
 have HA := H_ (fun w => alive26_any w); obtain ⟨W, hW⟩ : ∃ W, W = w.alloc (.cells c.cells 27 (0, 0)) := ⟨_, rfl⟩; have b1 : Below w.heap.size w W := by rw [hW]; exact (Below.refl _ _).alloc (Nat.le_refl _) _
 have x0 : W.heap[w.heap.size]? = some (.cells c.cells 27 (0, 0)) := by rw [hW]; exact at1 _ _
 have hsz : W.heap.size = w.heap.size + 1 := by rw [hW, alloc1]
 have HX := H_ (A_ b1 (A_ x0 hsz)); have HSm := H_ (small_any c l ls _ _ W (hl.below b1) (hs.below b1) hn hk); have HR0 := H_ (lcfg_range x0); obtain ⟨len, hln⟩ : ∃ len, len = l.length := ⟨_, rfl⟩; obtain ⟨sa, hsa⟩ : ∃ sa, sa = c.srva := ⟨_, rfl⟩; obtain ⟨sc, hsc⟩ : ∃ sc, sc = c.srvc := ⟨_, rfl⟩
 have hlen : c.srvl = len := by
  obtain ⟨sa, sc, hv, -, -⟩ := hl.form; rw [hln]; exact (Value.slice.inj hv).2.1
 have hC : ∀ Y, Below W.heap.size W Y -> Y.cell? ⟨w.heap.size, 24, none⟩ = some (.slice sa len sc) := by
  intro Y hY; have xY := (hY.block w.heap.size (by omega)).trans x0; rw [hsa, hsc, <- hlen]; exact cellOf xY 24 _ rfl
 have HC := H_ hC; have HL := H_ (A_ hl (A_ hs (A_ hM (A_ hI hnd)))); have HLN := H_ hln; clear b1 x0 hsz hl hs hM hI hnd hn hk hC hsa hsc hlen hln; go_enter Tryz.func3, Tryz.ntmps3
 go_upto_region 1 with (refine lwpl_cfgbox c (by rfl) ?_)
 rw [<- hW]; clear hW
 go_wp2_with (first | (refine lwpl_cfgload rfl _ rfl w.heap.size (by rfl) c HR0.out ?_))
 refine HSm.out.mono ?_; rintro e w1 ⟨b, rfl, b2, hb⟩; have H1 := H_ b2; clear b2 HSm; cases b
 . go_wp2_with (go_at_call 5; refine (HA.out _).mono ?_; rintro e w2 ⟨rfl, b3⟩; have H2 := H_ (HX.out.1.trans ((H1.out.trans (b3.mono H1.out.size)).mono HX.out.1.size)); clear b3)
   go_ret; exact ⟨rfl, H2.out⟩
 obtain ⟨hl8, hs12, hck⟩ := hb rfl; clear hb; have HSZ := H_ (A_ hl8 (A_ hs12 hck)); clear hl8 hs12 hck
 by_cases g2 : n < 0
 . have d2 : decide (n < 0) = true := by simpa using g2
   clear g2
   go_wp2_with (go_at_call 5; refine (HA.out _).mono ?_; rintro e w2 ⟨rfl, b3⟩; have H2 := H_ (HX.out.1.trans ((H1.out.trans (b3.mono H1.out.size)).mono HX.out.1.size)); clear b3)
   go_ret; exact ⟨rfl, H2.out⟩
 have d2 : decide (n < 0) = false := by simpa using g2
 by_cases g3 : 300 < n
 . have d3 : decide (300 < n) = true := by simpa using g3
   clear g2 g3
   go_wp2_with (go_at_call 5; refine (HA.out _).mono ?_; rintro e w2 ⟨rfl, b3⟩; have H2 := H_ (HX.out.1.trans ((H1.out.trans (b3.mono H1.out.size)).mono HX.out.1.size)); clear b3)
   go_ret; exact ⟨rfl, H2.out⟩
 have d3 : decide (300 < n) = false := by simpa using g3
 obtain ⟨m, rfl⟩ : ∃ m : Nat, n = m := ⟨n.toNat, by omega⟩; have hm : m <= 300 := by omega
 clear g2 g3; have hR1 := H_ (lcfg_range ((H1.out.block w.heap.size (by have := HX.out.2.2; omega)).trans HX.out.2.1)); have HN := H_ (lacNew_any c l ls _ _ w1 (HL.out.1.below (HX.out.1.trans (H1.out.mono HX.out.1.size))) (HL.out.2.1.below (HX.out.1.trans (H1.out.mono HX.out.1.size))) (by have := HSZ.out.1; omega) (by have := HSZ.out.2.1; omega) (fun o ho => (HL.out.2.2.1 o ho).1) HL.out.2.2.2.1 HL.out.2.2.2.2 (fun _ => by have := HSZ.out.2.2; omega))
 go_upto_region 3 with (fail)
 go_wp2_with (first | (refine lwpl_cfgload rfl _ rfl w.heap.size (by rfl) c hR1.out ?_))
 refine HN.out.mono ?_; rintro e w2 ⟨b3, h2⟩; have H2 := H_ (H1.out.trans (b3.mono H1.out.size)); have H2b := H_ b3; clear b3 HN
 rcases h2 with ⟨x, rfl, hx, -⟩ | ⟨lb, tb, cb, lm, ps, pv, rfl, hlo, h9⟩
 . have e1 : (x == 0) = false := by simpa using hx
   have e2 : decide (x = 0) = false := by simpa using hx
   clear hx
   go_wp2_with (go_at_call 5; refine (HA.out _).mono ?_; rintro e w3 ⟨rfl, b3⟩; have H3 := H_ (HX.out.1.trans ((H2.out.trans (b3.mono H2.out.size)).mono HX.out.1.size)); clear b3)
   go_ret; exact ⟨rfl, H3.out⟩
 have hmx : l.length <= 1000000 := by have := HSZ.out.1; omega
 have HM := H_ (A_ hmx (A_ hlo h9)); have HMM := H_ hm; clear hmx hlo h9; go_wp2_with fail
 go_loopg [7] m (fun x i wr => ∃ k : Nat, k <= m /\ x = m - k /\ i = .int .i64 k /\ Hid (LC wr c.bare l lb tb cb lm ps pv k /\ Below W.heap.size W wr))
 case atStart => exact ⟨0, by omega, by omega, rfl, H_ ⟨HM.out.2.2, H2.out⟩⟩
 case round =>
  obtain ⟨k, hk, rfl, rfl, hK⟩ := hrel; have HK := H_ hK.out; clear hK
  by_cases hkn : k < m
  . have e1 : wrap64 ((k : Int) + 1) = (k : Int) + 1 := by unfold wrap64; omega
    have TI := H_ (lTick_at HK.out.1 HM.out.1 (by omega)); clear hm
    go_wp2_with (go_at_call 7; refine TI.out.mono ?_; rintro e w8 ⟨rfl, h8, k8⟩; have H8 := H_ (A_ h8 (HK.out.2.trans (k8.below HK.out.2.size (fun j hj h => by have := HM.out.2.1; have := H1.out.size; omega)))); clear h8 k8)
    go_roundg (m - (k + 1))
    case measure => omega
    case rel => exact ⟨k + 1, by omega, rfl, by go_num, H_ ⟨H8.out.1, H8.out.2⟩⟩
  . obtain rfl : k = m := by omega
    have HO := H_ (lOut_at HK.out.1 HM.out.1)
    go_upto_region 13 with (go_at_call 8; refine HO.out.mono ?_; rintro e w9 ⟨rfl, b9⟩; have H9 := H_ (A_ (HK.out.1.keep b9) (HK.out.2.trans (b9.mono HK.out.2.size))); clear b9)
    have HT := H_ (lTunnels_at H9.out.1 HM.out.1); go_wp2_with fail; refine HT.out.mono ?_; rintro e w10 ⟨v, rfl, hz, b10⟩; obtain ⟨za, zc, rfl, hzat⟩ := hz.at HM.out.1; have HZ := H_ hzat; have H10 := H_ (A_ (H9.out.1.keep b10) (H9.out.2.trans (b10.mono H9.out.2.size))); clear hz hzat b10 HT HO; have hll := HLN.out; rw [<- hll] at HZ ⊢; clear hll; go_wp2_with fail
    go_loopg [11] len (fun x i wr => ∃ j : Nat, j <= len /\ x = len - j /\ i = .int .i64 j /\ w10 = wr)
    case atStart => exact ⟨0, by omega, by omega, rfl, rfl⟩
    case round =>
     obtain ⟨j, hj, rfl, rfl, rfl⟩ := hrel
     by_cases hjl : j < len
     . have e1 : wrap64 ((j : Int) + 1) = (j : Int) + 1 := by have := HSZ.out.1; have := HLN.out; unfold wrap64; omega
       obtain ⟨b, off, rfl, hc⟩ := HZ.out j hjl; have c0 := hc w10 (Below.refl _ _); clear hc; go_wp2_with fail
       go_roundg (len - (j + 1))
       case measure => omega
       case rel => exact ⟨j + 1, by omega, rfl, by go_num, rfl⟩
     . have p1 : ((k : Int) == (k : Int)) = true := by simp
       have p2 : ((len : Int) == (len : Int)) = true := by simp
       go_wp2_with (first | (go_at_call 5; refine (HA.out _).mono ?_; rintro e w11 ⟨rfl, b11⟩; have H11 := H_ (A_ (H10.out.1.keep b11) (H10.out.2.trans (b11.mono H10.out.2.size))); clear b11) | (go_at_call 10; refine (lLines_at H11.out.1).mono ?_; rintro e w12 ⟨rfl, b12⟩; have H12 := H_ (A_ (H11.out.1.keep b12) (H11.out.2.trans (b12.mono H11.out.2.size))); clear b12) | (go_at_call 11; refine (lNow_at H12.out.1).mono ?_; rintro e w13 ⟨rfl, b13⟩; have H13 := H_ (H12.out.2.trans (b13.mono H12.out.2.size)); clear b13; have c24 := HC.out w13 H13.out))
       go_ret; exact ⟨rfl, HX.out.1.trans (H13.out.mono HX.out.1.size)⟩
end Go.Proofs.YtoblffnlopmebaaGreat
