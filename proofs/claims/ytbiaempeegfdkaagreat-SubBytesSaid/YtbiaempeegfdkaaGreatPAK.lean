import Derived.Test.YtbiaempeegfdkaaGreatPAJ
import Derived.Lib.QuietBelow
set_option linter.unusedVariables false
set_option linter.unusedSimpArgs false
set_option maxHeartbeats 16000000
namespace Go.Proofs.YtbiaempeegfdkaaGreat
open Go.RowKit Go.Tg Go.Maps
def Rl.val (r : Rl) : Value := .agg #[.int .i64 r.t, .int .i64 r.len, .int .i64 r.min, .int .i64 r.max, .string r.s]
def I64 (n : Int) : Prop := (Lit.int .i64 n).wf = true
theorem kvI {t : Int} (h : I64 t) : KV Tryz.prog 3 (.int .i64 t) := ⟨_, keyOf_int_mk Tryz.underlying3 h⟩
theorem keyedI : Keyed Tryz.prog 3 := int_keyed Tryz.underlying3
open Classical in
noncomputable def seenF (pre : List Opt) : Value -> Option Value := fun x => if ∃ o ∈ pre, x = .int .i64 o.t then some (.agg #[]) else none
theorem seenF_nil : seenF [] = fun _ => none := by funext x; simp [seenF]
theorem seenF_snoc (pre : List Opt) (o : Opt) (x : Value) : seenF (pre ++ [o]) x = upd (seenF pre) (.int .i64 o.t) (.agg #[]) x := by
 by_cases hx : x = .int .i64 o.t
 . subst hx; rw [upd_same]; unfold seenF; rw [if_pos ⟨o, by simp, rfl⟩]
 . rw [upd_other _ _ hx]; unfold seenF
   congr 1
   simp only [List.mem_append, List.mem_singleton, eq_iff_iff]
   constructor
   . rintro ⟨y, hy | rfl, h⟩
     . exact ⟨y, hy, h⟩
     . exact absurd h hx
   . rintro ⟨y, hy, h⟩; exact ⟨y, Or.inl hy, h⟩
theorem seenF_at (pre : List Opt) (k : Int) : seenF pre (.int .i64 k) = if pre.any (fun x => x.t == k) then some (.agg #[]) else none := by
 unfold seenF
 congr 1
 simp only [List.any_eq_true, beq_iff_eq, eq_iff_iff, Value.int.injEq, true_and]
 constructor
 . rintro ⟨y, hy, h⟩; exact ⟨y, hy, h.symm⟩
 . rintro ⟨y, hy, h⟩; exact ⟨y, hy, h.symm⟩
def AnsI (w W : World) (r : Value) (row pre : List Opt) : Prop := ORow W w.heap.size r row /\ MapAt Tryz.prog 3 W w.heap.size (seenF pre) /\ (∀ b, r.ownBlock = some b -> w.heap.size < b) /\ Below w.heap.size w W
theorem AnsI.below {w W W' : World} {r : Value} {row pre : List Opt} (h : AnsI w W r row pre) (hb : Below W.heap.size W W') : AnsI w W' r row pre :=
 ⟨h.1.below hb, h.2.1.same (hb.block _ h.2.1.lt), h.2.2.1, h.2.2.2.trans (hb.mono h.2.2.2.size)⟩
theorem AnsI.app {w W W' : World} {r : Value} {row row' pre : List Opt} {g n cap : Nat} (h : AnsI w W r row pre) (hrow : ORow W' w.heap.size (.slice (some ⟨g, 0, none⟩) n cap) row') (hk : Keep (fun k => r.ownBlock = some k) W W')
 (hg : r.ownBlock = some g \/ g = W.heap.size) : AnsI w W' (.slice (some ⟨g, 0, none⟩) n cap) row' pre := by
 refine ⟨hrow, h.2.1.keep hk (fun e => Nat.lt_irrefl _ (h.2.2.1 _ e)), ?_, h.2.2.2.trans (hk.below h.2.2.2.size (fun k hk e => Nat.lt_asymm hk (h.2.2.1 _ e)))⟩; intro b hb; obtain rfl : g = b := by simpa [Value.ownBlock] using hb
 rcases hg with hg | hg
 . exact h.2.2.1 _ hg
 . have := h.2.1.lt; omega
theorem AnsI.upd {w W : World} {r : Value} {row pre : List Opt} (h : AnsI w W r row pre) (o : Opt) (ho : I64 o.t) :
 ∃ ob, (Instr.mapUpdate 195 (.map (some w.heap.size)) (.int .i64 o.t) (.agg #[])).run Tryz.prog W = .ok () (ChangeMaps.setBlock W w.heap.size ob) /\ AnsI w (ChangeMaps.setBlock W w.heap.size ob) r row (pre ++ [o]) := by
 obtain ⟨es, cl, h1, h2⟩ := h.2.1.run_update keyedI Tryz.underlying195 (kvI ho) (.agg #[]); have hk : Keep (· = w.heap.size) W (ChangeMaps.setBlock W w.heap.size (.map es cl)) := (Keep.refl (· = w.heap.size) W).setBlock w.heap.size (Or.inr rfl) _; refine ⟨_, h1, h.1.keep hk ?_, h2.congr (fun k => seenF_snoc _ _ _), h.2.2.1, h.2.2.2.trans (hk.below h.2.2.2.size (fun k hk e => by omega))⟩; rintro k e rfl; exact Nat.lt_irrefl _ (h.2.2.1 _ e)
section
variable {σ : Type}
def nakQ (fits : Opt -> Bool) (inst : σ -> Int -> ByteArray × σ) (s : σ) (l : List Opt) : List Opt × σ :=
 l.foldl (fun a o => if fits o then a else (a.1 ++ [⟨o.t, (inst a.2 o.t).1⟩], (inst a.2 o.t).2)) ([], s)
theorem nakQ_snoc (fits : Opt -> Bool) (inst : σ -> Int -> ByteArray × σ) (s : σ) (l : List Opt) (o : Opt) :
 nakQ fits inst s (l ++ [o]) = if fits o then nakQ fits inst s l else ((nakQ fits inst s l).1 ++ [⟨o.t, (inst (nakQ fits inst s l).2 o.t).1⟩], (inst (nakQ fits inst s l).2 o.t).2) := by
 simp only [nakQ, List.foldl_append, List.foldl_cons, List.foldl_nil]
theorem nakQ_len' (fits : Opt -> Bool) (inst : σ -> Int -> ByteArray × σ) : ∀ (l : List Opt) (a : List Opt × σ),
 (l.foldl (fun a o => if fits o then a else (a.1 ++ [⟨o.t, (inst a.2 o.t).1⟩], (inst a.2 o.t).2)) a).1.length <= a.1.length + l.length := by
 intro l
 induction l with
 | nil => intro a; simp
 | cons o l ih =>
  intro a; rw [List.foldl_cons]; refine Nat.le_trans (ih _) ?_
  split
  . simp
  . simp only [List.length_append, List.length_cons, List.length_nil]; omega
theorem nakQ_len (fits : Opt -> Bool) (inst : σ -> Int -> ByteArray × σ) (s : σ) (l : List Opt) : (nakQ fits inst s l).1.length <= l.length := by
 have := nakQ_len' fits inst l ([], s)
 simpa [nakQ] using this
def answerQ (has : Int -> Bool) (fits : Opt -> Bool) (inst : σ -> Int -> ByteArray × σ) (s : σ) (l : List Opt) : (Int × List Opt) × σ :=
 if (rejP has [] l).length ≠ 0 then ((4, rejP has [] l), s) else if (nakQ fits inst s l).1.length ≠ 0 then ((3, (nakQ fits inst s l).1), (nakQ fits inst s l).2) else ((2, l), (nakQ fits inst s l).2)
end
set_option maxRecDepth 100000 in
theorem answerQ_any (l : List Opt) (lv : Value) (ok : Nat -> Prop) (w : World) (hl : Opts w ok lv l) (hmax : l.length <= 1000000) (hwf : ∀ o ∈ l, I64 o.t)
 (gh gf gi : Nat) (bh : Array Value) (pf qi : Value) {σ : Type} (has : Int -> Bool) (fits : Opt -> Bool) (inst : σ -> Int -> ByteArray × σ) (s0 : σ) (T : Nat -> Prop) (Q : World -> σ -> Prop)
 (hQB : ∀ W W' s, Q W s -> Below w.heap.size W W' -> Q W' s) (hTw : ∀ b, T b -> b < w.heap.size) (hok : ∀ b, ok b -> ¬ T b) (hq0 : Q w s0)
 (eh : ∀ args w, (callFunc gh args).run Tryz.prog w = .ok (.enter gh args) w) (ef : ∀ args w, (callFunc gf args).run Tryz.prog w = .ok (.enter gf args) w) (ei : ∀ args w, (callFunc gi args).run Tryz.prog w = .ok (.enter gi args) w)
 (hh : ∀ (W : World) (o : Opt), o ∈ l -> Below w.heap.size w W -> Calls Tryz.prog gh (#[.int .i64 o.t] ++ bh) W fun e w' => e = .returned (.bool (has o.t)) /\ Below W.heap.size W w')
 (hf : ∀ (W : World) (s : σ) (o : Opt), o ∈ l -> Keep T w W -> Q W s -> Calls Tryz.prog gf #[pf, .agg #[.int .i64 o.t, .string o.v]] W fun e w' => e = .returned (.bool (fits o)) /\ Q w' s /\ Keep T W w')
 (hi : ∀ (W : World) (s : σ) (o : Opt), o ∈ l -> Keep T w W -> Q W s -> Calls Tryz.prog gi #[qi, .int .i64 o.t] W fun e w' => e = .returned (.string (inst s o.t).1) /\ Q w' (inst s o.t).2 /\ Keep T W w') :
 Calls Tryz.prog 130 #[lv, .func (.func gh) #[] bh, .func (.func gf) #[pf] #[], .func (.func gi) #[qi] #[]] w fun e w' =>
  ∃ v, e = .returned (.tuple #[.int .i64 (answerQ has fits inst s0 l).1.1, v]) /\ ORow w' w.heap.size v (answerQ has fits inst s0 l).1.2 /\ Q w' (answerQ has fits inst s0 l).2 /\ Keep T w w' := by
 obtain ⟨sa, c, rfl, hc, hm⟩ := hl.form; have HL := H_ hl; have HH := H_ hh; have HF := H_ hf; have HI := H_ hi; have HWF := H_ hwf; have HQ0 := H_ (A_ hQB (A_ hTw (A_ hok hq0))); obtain ⟨len, hln⟩ : ∃ len, len = l.length := ⟨_, rfl⟩; have HLN := H_ hln; have hmm := @run_makeMap Tryz.prog; rw [<- hln] at hc hmax ⊢; unfold maxLen at hm; clear hl hh hf hi hwf hln hQB hTw hok hq0; go_enter Tryz.func130, Tryz.ntmps130; go_wp2_with fail
 go_loopg [10, 22] len (fun x r i wr => ∃ k : Nat, k <= len /\ x = len - k /\ i = .int .i64 k /\
  Hid (AnsI w wr r (rejP has [] (l.take k)) (l.take k)))
 case atStart =>
  refine ⟨0, by omega, by omega, rfl, ORow.nil _ _, ?_, (by intro b hb; cases hb), (Below.refl _ _).alloc (Nat.le_refl _) _⟩; rw [List.take_zero, seenF_nil]; exact MapAt.empty _
 case round =>
  obtain ⟨k, hk, rfl, rfl, hK⟩ := hrel; have HK := H_ hK.out; clear hK
  by_cases hkl : k < len
  . have hkl' : k < l.length := by have := HLN.out; omega
    obtain ⟨b, off, rfl, hb, -, -, -, -, c0, c1⟩ := HL.out.at k hkl'; have d0 : wr.cell? ⟨b, off + k * 2, none⟩ = _ := (HK.out.2.2.2.cell (p := ⟨b, off + k * 2, none⟩) hb).trans c0; have d1 : wr.cell? ⟨b, off + k * 2 + 1, none⟩ = _ := (HK.out.2.2.2.cell (p := ⟨b, off + k * 2 + 1, none⟩) hb).trans c1; have hwm : w.heap.size < wr.heap.size := HK.out.2.1.lt; have HO := H_ (List.getElem_mem hkl'); have HT := H_ (show l.take (k + 1) = l.take k ++ [l[k]] from by rw [List.take_succ_eq_append_getElem hkl']); clear c0 c1; generalize l[k] = o at *; have hwo := HWF.out o HO.out; have hzu : ∀ w, (zeroValue 196).run Tryz.prog w = .ok (.agg #[]) w := fun w => by kernel_rfl
    have hlk := (HK.out.2.1.same (w' := wr.alloc (.cells #[.int .i64 o.t, .string o.v] 132 (0, 0))) (Below.heap_alloc _ _ _ hwm)).run_lookup keyedI Tryz.underlying195 (kvI hwo) (hzu _) true; rw [seenF_at] at hlk; have HR := H_ (show rejP has [] (l.take (k + 1)) = rejP has [] (l.take k) ++ (if rejOne has (l.take k) o then [o] else []) from by rw [HT.out, rejP_snoc, List.nil_append]); unfold rejOne at HR; generalize hhad : (l.take k).any (fun x => x.t == o.t) = had at hlk HR; clear hhad hzu hwm; obtain ⟨t, v⟩ := o; simp only at d0 d1 hlk HR hwo
    have hlen : (rejP has [] (l.take k)).length <= 1000000 := by
     have := rejP_len has (l.take k) []; rw [List.length_take] at this; omega
    generalize hrow : rejP has [] (l.take k) = row at HK HR hlen; have HX := H_ ((((Below.refl wr.heap.size wr).alloc (Nat.le_refl _) (.cells #[.int .i64 t, .string v] 132 (0, 0)))).alloc (by rw [alloc1]; omega) (.cells #[] 196 (0, 0))); have hx0 := (Below.heap_alloc (wr.alloc (.cells #[.int .i64 t, .string v] 132 (0, 0))) (.cells #[] 196 (0, 0)) wr.heap.size (by rw [alloc1]; omega)).trans (at1 wr (.cells #[.int .i64 t, .string v] 132 (0, 0))); have HX0 := H_ hx0; clear hx0 hrow
    cases had with
    | true =>
     simp only [if_pos, Option.getD, Option.isSome] at hlk; have hK2 := HK.out.below HX.out; have hsz : ((wr.alloc (.cells #[.int .i64 t, .string v] 132 (0, 0))).alloc (.cells #[] 196 (0, 0))).heap.size = wr.heap.size + 1 + 1 := alloc2 _ _ _; have hxn := at1 ((wr.alloc (.cells #[.int .i64 t, .string v] 132 (0, 0))).alloc (.cells #[] 196 (0, 0))) (.cells #[.int .i64 t, .string v] 132 (0, 0)); have hK3 := hK2.below ((Below.refl _ _).alloc (Nat.le_refl _) (.cells #[.int .i64 t, .string v] 132 (0, 0))); have hx3 := (Below.heap_alloc ((wr.alloc (.cells #[.int .i64 t, .string v] 132 (0, 0))).alloc (.cells #[] 196 (0, 0))) (.cells #[.int .i64 t, .string v] 132 (0, 0)) wr.heap.size (by rw [alloc2]; omega)).trans HX0.out; rw [hsz] at hxn; have HK3 := H_ hK3; have HXN := H_ hxn; have HX3 := H_ (A_ hx3 hK3.2.2.2.size); clear hK2 hK3 hx3 hxn hsz
     go_wp2_with (at_builtin; refine wpl_append_opt rfl _ _ rfl _ row rfl HK3.out.1 _ 1 t v rfl HXN.out hlen HX3.out.2 ?_)
     intro g cap w5 hr5 hk5 hg5; have hne : ¬ u10.ownBlock = some wr.heap.size := fun e => Nat.lt_irrefl _ (HK.out.1.lt _ e).1; have e0 : w5.cell? ⟨wr.heap.size, 0, none⟩ = some (.int .i64 t) := cellOf ((hk5.block wr.heap.size (by rw [alloc1, alloc2]; omega) hne).trans HX3.out.1) 0 _ rfl; obtain ⟨ob, hup, hA⟩ := (HK3.out.app hr5 hk5 (by rw [alloc1, alloc2]; exact hg5)).upd ⟨t, v⟩ hwo; have HA := H_ hA; clear hA hr5 hk5 hg5 hne; go_wp2_with fail
     go_roundg (len - (k + 1))
     case measure => omega
     case rel => exact ⟨k + 1, by omega, rfl, by go_num, by rw [HR.out, HT.out]; exact HA.out⟩
    | false =>
     simp only [Option.getD, Option.isSome] at hlk; have hK2 := HK.out.below HX.out; have hcall := HH.out _ ⟨t, v⟩ HO.out hK2.2.2.2; simp only at hcall
     have HK2 := H_ hK2; clear hK2; generalize has t = bb at hcall HR
     cases bb with
     | true =>
      go_wp2_with (
       go_at_fn gh; refine hcall.mono ?_; rintro e w5 ⟨rfl, hb5⟩
       have e0 : w5.cell? ⟨wr.heap.size, 0, none⟩ = some (.int .i64 t) := cellOf ((hb5.block wr.heap.size (by rw [alloc2]; omega)).trans HX0.out) 0 _ rfl; obtain ⟨ob, hup, hA⟩ := (HK2.out.below hb5).upd ⟨t, v⟩ hwo; have HA := H_ hA
       clear hA hb5)
      go_roundg (len - (k + 1))
      case measure => omega
      case rel => exact ⟨k + 1, by omega, rfl, by go_num, by rw [HR.out, HT.out, if_neg (by decide), List.append_nil]; exact HA.out⟩
     | false =>
      go_wp2_with (first
       | (
        go_at_fn gh; refine hcall.mono ?_; rintro e w5 ⟨rfl, hb5⟩
        have hx5 := (hb5.block wr.heap.size (by rw [alloc2]; omega)).trans HX0.out; have c50 : w5.cell? ⟨wr.heap.size, 0, none⟩ = some (.int .i64 t) := cellOf hx5 0 _ rfl; have c51 : w5.cell? ⟨wr.heap.size, 1, none⟩ = some (.string v) := cellOf hx5 1 _ rfl; have hK3 := (HK2.out.below hb5).below ((Below.refl _ _).alloc (Nat.le_refl _) (.cells #[.int .i64 t, .string v] 132 (0, 0))); have hlt5 : wr.heap.size < w5.heap.size := (Array.getElem?_eq_some_iff.1 hx5).1; have hx3 := (Below.heap_alloc w5 (.cells #[.int .i64 t, .string v] 132 (0, 0)) wr.heap.size hlt5).trans hx5; have hxn := at1 w5 (.cells #[.int .i64 t, .string v] 132 (0, 0)); have HK3 := H_ hK3; have HXN := H_ hxn; have HX3 := H_ (A_ hx3 (A_ hK3.2.2.2.size hlt5))
        clear hK3 hx3 hxn hx5 hb5 hlt5)
       | (
        at_builtin; refine wpl_append_opt rfl _ _ rfl _ row rfl HK3.out.1 _ 1 t v rfl HXN.out hlen HX3.out.2.1 ?_
        intro g cap w6 hr5 hk5 hg5; have hne : ¬ u10.ownBlock = some wr.heap.size := fun e => Nat.lt_irrefl _ (HK.out.1.lt _ e).1; have e0 : w6.cell? ⟨wr.heap.size, 0, none⟩ = some (.int .i64 t) := cellOf ((hk5.block wr.heap.size (by rw [alloc1]; have := HX3.out.2.2; omega) hne).trans HX3.out.1) 0 _ rfl; obtain ⟨ob, hup, hA⟩ := (HK3.out.app hr5 hk5 hg5).upd ⟨t, v⟩ hwo; have HA := H_ hA
        clear hA hr5 hk5 hg5 hne))
      go_roundg (len - (k + 1))
      case measure => omega
      case rel => exact ⟨k + 1, by omega, rfl, by go_num, by have hA' := HA.out; rw [List.length_append] at hA'; rw [HR.out, HT.out, if_pos (by decide)]; exact hA'⟩
  . obtain rfl : len = k := by omega
    have HQ := H_ (show l.take len = l from List.take_of_length_le (by have := HLN.out; omega)); rw [HQ.out] at HK
    by_cases hz : (rejP has [] l).length = 0
    . have HAS := H_ (show answerQ has fits inst s0 l = if (nakQ fits inst s0 l).1.length ≠ 0 then ((3, (nakQ fits inst s0 l).1), (nakQ fits inst s0 l).2) else ((2, l), (nakQ fits inst s0 l).2) from by unfold answerQ; rw [if_neg (by omega)]); obtain ⟨ra, rc, hr⟩ := HK.out.1.form; rw [hz] at hr; subst hr; have HB1 := H_ HK.out.2.2.2; clear hz; go_wp2_with fail
      go_loopg [11, 56] len (fun x r i wr => ∃ k : Nat, k <= len /\ x = len - k /\ i = .int .i64 k /\ Hid (ORow wr w.heap.size r (nakQ fits inst s0 (l.take k)).1 /\ Keep T w wr /\ Q wr (nakQ fits inst s0 (l.take k)).2))
      case atStart => exact ⟨0, by omega, by omega, rfl, ORow.nil _ _, Keep.of_below _ HB1.out, HQ0.out.1 _ _ _ HQ0.out.2.2.2 HB1.out⟩
      case round =>
       obtain ⟨k, hk, rfl, rfl, hK⟩ := hrel; have HK := H_ hK.out; clear hK
       by_cases hkl : k < len
       . have hkl' : k < l.length := by have := HLN.out; omega
         obtain ⟨b, off, rfl, hb, hbo, -, -, -, c0, c1⟩ := HL.out.at k hkl'; have hbT := HQ0.out.2.2.1 b hbo; have d0 : wr.cell? ⟨b, off + k * 2, none⟩ = _ := (HK.out.2.1.cell (p := ⟨b, off + k * 2, none⟩) hb hbT).trans c0; have d1 : wr.cell? ⟨b, off + k * 2 + 1, none⟩ = _ := (HK.out.2.1.cell (p := ⟨b, off + k * 2 + 1, none⟩) hb hbT).trans c1; have HO := H_ (List.getElem_mem hkl'); have HT := H_ (show nakQ fits inst s0 (l.take (k + 1)) = if fits l[k] then nakQ fits inst s0 (l.take k) else ((nakQ fits inst s0 (l.take k)).1 ++ [⟨l[k].t, (inst (nakQ fits inst s0 (l.take k)).2 l[k].t).1⟩], (inst (nakQ fits inst s0 (l.take k)).2 l[k].t).2) from by rw [List.take_succ_eq_append_getElem hkl', nakQ_snoc])
         have hlen : (nakQ fits inst s0 (l.take k)).1.length <= 1000000 := by
          have := nakQ_len fits inst s0 (l.take k); rw [List.length_take] at this; omega
         have hTn : ∀ b, w.heap.size <= b -> ¬ T b := fun b hb ht => by have := HQ0.out.2.1 b ht; omega
         have HTN := H_ hTn; clear c0 c1 hbo hbT hTn; generalize nakQ fits inst s0 (l.take k) = qq at *; obtain ⟨row, s1⟩ := qq; generalize l[k] = o at *; obtain ⟨t, v⟩ := o
         dsimp only at d0 d1 HT hlen HK
         have hbx := (Below.refl wr.heap.size wr).alloc (Nat.le_refl _) (.cells #[.int .i64 t, .string v] 132 (0, 0)); have hx0 := at1 wr (.cells #[.int .i64 t, .string v] 132 (0, 0)); have hws : w.heap.size <= wr.heap.size := HK.out.2.1.size; have hcall := HF.out _ s1 ⟨t, v⟩ HO.out (HK.out.2.1.alloc (.cells #[.int .i64 t, .string v] 132 (0, 0))) (HQ0.out.1 _ _ _ HK.out.2.2 (hbx.mono HK.out.2.1.size)); simp only at hcall
         have HX := H_ (A_ (Keep.of_below T hbx) hx0); clear hbx hx0; generalize fits ⟨t, v⟩ = bb at hcall HT
         cases bb with
         | true =>
          go_wp2_with (
           go_at_fn gf; refine hcall.mono ?_; rintro e w5 ⟨rfl, hq5, hb5⟩
           have HB5 := H_ (A_ hq5 (HX.out.1.trans hb5))
           clear hb5 hq5)
          go_roundg (len - (k + 1))
          case measure => omega
          case rel => exact ⟨k + 1, by omega, rfl, by go_num, by rw [HT.out, if_pos trivial]; exact ⟨HK.out.1.keep HB5.out.2 (fun b hb => HTN.out b (HK.out.1.lt b hb).2), HK.out.2.1.trans HB5.out.2, HB5.out.1⟩⟩
         | false =>
          have HII := H_ (fun W hW hq => HI.out W s1 ⟨t, v⟩ HO.out hW hq); simp only at HII
          generalize inst s1 t = it at HII HT; obtain ⟨it, s2⟩ := it
          dsimp only at HII HT
          go_wp2_with (
           go_at_fn gf; refine hcall.mono ?_; rintro e w5 ⟨rfl, hq5, hb5⟩
           have hx5 := (hb5.block wr.heap.size (by rw [alloc1]; omega) (HTN.out _ hws)).trans HX.out.2; have hbw5 := HX.out.1.trans hb5; have HB5 := H_ (A_ hbw5 hx5); have e50 : w5.cell? ⟨wr.heap.size, 0, none⟩ = some (.int .i64 t) := cellOf hx5 0 _ rfl; have hci := HII.out w5.drew (HK.out.2.1.trans hbw5.drew) (HQ0.out.1 _ _ _ hq5 (Below.refl w.heap.size w5).drew)
           clear hb5 hx5 hbw5 hq5)
          have HZ : Hid (∀ w6, Keep T w5.drew w6 -> w6.cell? ⟨wr.heap.size, 0, none⟩ = some (.int .i64 t) /\ Hid (ORow (w6.alloc (.cells #[.int .i64 t, .string it] 132 (0, 0))) w.heap.size u11 row /\
           (w6.alloc (.cells #[.int .i64 t, .string it] 132 (0, 0))).heap[w6.heap.size]? = some (.cells #[.int .i64 t, .string it] 132 (0, 0)) /\ w.heap.size <= (w6.alloc (.cells #[.int .i64 t, .string it] 132 (0, 0))).heap.size /\
           Keep T w (w6.alloc (.cells #[.int .i64 t, .string it] 132 (0, 0))))) := H_ (by
           intro w6 hb6; have hlt5 : wr.heap.size < w5.heap.size := (Array.getElem?_eq_some_iff.1 HB5.out.2).1; have hB : Keep T wr (w6.alloc (.cells #[.int .i64 t, .string it] 132 (0, 0))) := (HB5.out.1.drew.trans hb6).alloc _; have hBw := HK.out.2.1.trans hB
           exact ⟨cellOf ((hb6.block wr.heap.size hlt5 (HTN.out _ hws)).trans HB5.out.2) 0 _ rfl, HK.out.1.keep hB (fun b hb => HTN.out b (HK.out.1.lt b hb).2), at1 _ _, hBw.size, hBw⟩)
          go_region_law (first
           | (go_simp; go_at_fn gi; refine hci.mono ?_; rintro e w6 ⟨rfl, hq6, hb6⟩; obtain ⟨e60, HB6⟩ := HZ.out w6 hb6; have HQ6 := H_ (HQ0.out.1 _ _ _ hq6 ((Below.refl w.heap.size w6).alloc (by have := HB6.out.2.2.1; rw [alloc1] at this; have := HK.out.2.1.size; have := HB5.out.1.size; have := hb6.size; exact Nat.le_trans ‹w.heap.size <= wr.heap.size› (Nat.le_trans ‹wr.heap.size <= w5.heap.size› this)) (.cells #[.int .i64 t, .string it] 132 (0, 0)))); clear hb6 hq6)
           | (refine step_append_opt rfl (.tmp 64) (.tmp 72) rfl u11 row rfl HB6.out.1 _ 1 t it rfl HB6.out.2.1 hlen HB6.out.2.2.1 ?_; intro g cap w7 hr7 hk7 hg7; have H7 := H_ (A_ hr7 hk7); clear hr7 hk7 hg7))
          all_goals (
           go_wp2_with fail
           go_roundg (len - (k + 1))
           case measure => omega
           case rel =>
            refine ⟨k + 1, by omega, rfl, by go_num, ?_⟩; rw [HT.out, if_neg (by simp)]; have hr7 := H7.out.1; rw [List.length_append] at hr7; have hn7 : ∀ q, q < w.heap.size -> ¬ (u11.ownBlock = some q) := fun q hq e => Nat.lt_irrefl _ (Nat.lt_of_lt_of_le hq (HK.out.1.lt _ e).2)
            exact ⟨hr7, HB6.out.2.2.2.transM H7.out.2 (fun _ _ h => h) (fun q hq e => (hn7 q hq e).elim), HQ0.out.1 _ _ _ HQ6.out (H7.out.2.below HB6.out.2.2.1 hn7)⟩)
       . obtain rfl : len = k := by omega
         rw [HQ.out] at HK
         by_cases hz : (nakQ fits inst s0 l).1.length = 0
         . have HA2 := H_ (show answerQ has fits inst s0 l = ((2, l), (nakQ fits inst s0 l).2) from by rw [HAS.out, if_neg (by omega)]); obtain ⟨ra, rc, hr⟩ := HK.out.1.form; rw [hz] at hr; subst hr; have HC := H_ (clone_any l (.slice sa len c) ok wr (by have : Opts wr ok (.slice sa l.length c) l := Rec.keep HL.out HK.out.2.1 (fun b _ hb => HQ0.out.2.2.1 b hb); rwa [<- HLN.out] at this) (by rw [<- HLN.out]; exact hmax)); go_wp2_with fail; refine HC.out.mono ?_; rintro e w6 ⟨cv, rfl, hrow, hbc⟩; have H6 := H_ (A_ hrow hbc); clear hrow hbc; go_wp2_with fail; go_ret2; have hrow := H6.out.1; refine ⟨_, by rw [HA2.out]; rfl, ?_, by rw [HA2.out]; exact HQ0.out.1 _ _ _ HK.out.2.2 (H6.out.2.mono HK.out.2.1.size), HK.out.2.1.trans (Keep.of_below T H6.out.2)⟩; rw [HA2.out]; exact hrow.base HK.out.2.1.size
         . have HA2 := H_ (show answerQ has fits inst s0 l = ((3, (nakQ fits inst s0 l).1), (nakQ fits inst s0 l).2) from by rw [HAS.out, if_pos hz]); obtain ⟨ra, rc, hr⟩ := HK.out.1.form; generalize nakQ fits inst s0 l = qq at *; obtain ⟨row, s1⟩ := qq
           dsimp only at hr hz HK HA2
           subst hr; have hd : decide ((0 : Int) < (row.length : Int)) = true := by simpa using Nat.pos_of_ne_zero hz
           go_wp2_with fail; go_ret2; exact ⟨_, by rw [HA2.out]; rfl, by rw [HA2.out]; exact HK.out.1, by rw [HA2.out]; exact HK.out.2.2, HK.out.2.1⟩
    . have HAS := H_ (show answerQ has fits inst s0 l = ((4, rejP has [] l), s0) from by unfold answerQ; rw [if_pos hz]); obtain ⟨ra, rc, hr⟩ := HK.out.1.form; generalize rejP has [] l = row at *; subst hr; have hd : decide ((0 : Int) < (row.length : Int)) = true := by simpa using Nat.pos_of_ne_zero hz
      go_wp2_with fail; go_ret2; exact ⟨_, by rw [HAS.out]; rfl, by rw [HAS.out]; exact HK.out.1, by rw [HAS.out]; exact HQ0.out.1 _ _ _ HQ0.out.2.2.2 HK.out.2.2.2, Keep.of_below T HK.out.2.2.2⟩
end Go.Proofs.YtbiaempeegfdkaaGreat
