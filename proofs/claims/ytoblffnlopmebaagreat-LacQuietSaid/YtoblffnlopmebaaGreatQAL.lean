import Derived.Test.YtoblffnlopmebaaGreatQAK
import Derived.Deep.AppendLies
set_option linter.unusedVariables false
set_option linter.unusedSimpArgs false
set_option maxHeartbeats 16000000
namespace Go.Proofs.YtoblffnlopmebaaGreat
open Go.RowKit Go.Tg Go.Maps
def ORow (w : World) (B : Nat) (v : Value) (l : List Opt) : Prop := w.ownsRow B 213 2 v l.length (optL l).flatten
theorem ORow.nil (w : World) (B : Nat) : ORow w B (.slice none 0 0) [] := World.ownsRow_nil _ _ _ _
theorem ORow.keep {w w' : World} {B : Nat} {v : Value} {l : List Opt} {T : Nat -> Prop} (h : ORow w B v l) (hk : Keep T w w') (hT : ∀ k, v.ownBlock = some k -> ¬ T k) : ORow w' B v l := by
 obtain ⟨h0, h | ⟨g, cap, cur, hv, h1, h2, h3⟩⟩ := h
 . exact ⟨h0, Or.inl h⟩
 . have hlt := (Array.getElem?_eq_some_iff.1 h2).1; exact ⟨h0, Or.inr ⟨g, cap, cur, hv, h1, (hk.block g hlt (hT g (by rw [hv]; rfl))).trans h2, h3⟩⟩
theorem ORow.below {w w' : World} {B : Nat} {v : Value} {l : List Opt} (h : ORow w B v l) (hb : Below w.heap.size w w') : ORow w' B v l := h.keep (Keep.of_below (fun _ => False) hb) (fun _ _ h => h)
theorem ORow.lt {w : World} {B : Nat} {v : Value} {l : List Opt} (h : ORow w B v l) : ∀ k, v.ownBlock = some k -> k < w.heap.size /\ B <= k := by
 intro k hk; have := World.ownsRow.lt h k hk; exact ⟨this.2, this.1⟩
theorem ORow.base {w : World} {B B' : Nat} {v : Value} {l : List Opt} (h : ORow w B v l) (hB : B' <= B) : ORow w B' v l := by
 obtain ⟨h0, h | ⟨g, cap, cur, hv, h1, h3⟩⟩ := h
 . exact ⟨h0, Or.inl h⟩
 . exact ⟨h0, Or.inr ⟨g, cap, cur, hv, Nat.le_trans hB h1, h3⟩⟩
theorem ORow.form {w : World} {B : Nat} {v : Value} {l : List Opt} (h : ORow w B v l) : ∃ sa sc, v = .slice sa l.length sc := by
 obtain ⟨_, ⟨h, hn⟩ | ⟨g, cp, cur, hv, _⟩⟩ := h
 . exact ⟨none, 0, by rw [h, hn]⟩
 . exact ⟨_, _, hv⟩
theorem ORow.opts {w : World} {B : Nat} {v : Value} {l : List Opt} (h : ORow w B v l) (hm : l.length <= maxLen) : Opts w (fun b => B <= b) v l :=
 Rec.of_owns h (optL_len l).symm (optL_k l) hm
theorem optL_app (a b : List Opt) : (optL (a ++ b)).flatten = (optL a).flatten ++ (optL b).flatten := by simp [optL]
theorem opt_info : ∃ i z, Tryz.prog.info? 213 = some i /\ i.zero = some z /\ i.size = 2 /\ i.bytes = 24 /\ z.cells.size = 2 := by
 have h : (Tryz.prog.info? 213).map (fun i => (i.zero, i.size, i.bytes)) = some (some (.agg #[.int .i64 0, .string ⟨#[]⟩]), 2, 24) := by kernel_rfl
 obtain ⟨i, hi, he⟩ := Option.map_eq_some_iff.1 h; simp only [Prod.mk.injEq] at he; exact ⟨i, _, hi, he.1, he.2.1, he.2.2, rfl⟩
theorem opt_one (o : Opt) : ∀ u ∈ o.cells, u.oneCell' = true := by
 intro u hu; simp [Opt.cells] at hu
 rcases hu with rfl | rfl <;> rfl
theorem wpl_append_opt {B : Nat} {w : World} {ops : Array Oper} {rest : List Oper} {o : Oper} {a : Act} {Q : Exit -> Act -> World -> Prop} (hgd : o.guard = none) (s x : Operand)
 (ho : o.op = .call { callee := .builtin .append, args := #[s, x], argTypes := #[76, 76] }) (v : Value) (l : List Opt) (hs : a.eval s = v) (hown : ORow w B v l)
 (bx c : Nat) (t : Int) (d : ByteArray) (hx : a.eval x = .slice (some ⟨bx, 0, none⟩) 1 c) (hb : w.heap[bx]? = some (.cells #[.int .i64 t, .string d] 213 (0, 0))) (hlen : l.length <= 1000000) (hW : B <= w.heap.size)
 (h : ∀ g cap w', ORow w' B (.slice (some ⟨g, 0, none⟩) (l ++ [(⟨t, d⟩ : Opt)]).length cap) (l ++ [(⟨t, d⟩ : Opt)]) -> Keep (fun k => v.ownBlock = some k) w w' -> (v.ownBlock = some g \/ g = w.heap.size) -> wpList Tryz.prog ops Q rest (a.put o.dst (.slice (some ⟨g, 0, none⟩) (l ++ [(⟨t, d⟩ : Opt)]).length cap)) w') : wpList Tryz.prog ops Q (o :: rest) a w := by
 obtain ⟨i, z, hi, hz, hsz, hby, hzs⟩ := opt_info
 refine wpList_append_lies (P := Tryz.prog) (w := w) hgd s x 76 ho B 213 i z 2 24 Tryz.underlying76 hi hz hsz hby hzs (by decide) v l.length (optL l).flatten hs hown ⟨bx, 0, none⟩ 1 c [.int .i64 t, .string d] hx rfl
  (World.news_of_block hb) (opt_one ⟨t, d⟩) (by decide) (by unfold maxLen; omega) (by omega) hW w.heap.size rfl ?_
 intro g cap w' h1 h2 h3 _; have e : (l ++ [(⟨t, d⟩ : Opt)]).length = l.length + 1 := by simp
 have := h g cap w' (by unfold ORow; rw [e, optL_app]; exact h1) (keep_of_grown h2) h3; rw [e] at this; exact this
theorem opt_bytes : ∀ (l : List Opt), ∀ u ∈ (optL l).flatten, u.oneCell' = true := by
 intro l u hu; simp only [List.mem_flatten, optL, List.mem_map] at hu; obtain ⟨_, ⟨o, _, rfl⟩, hu⟩ := hu; exact opt_one o u hu
set_option maxRecDepth 100000 in
theorem clone_any (l : List Opt) (lv : Value) (ok : Nat -> Prop) (w : World) (hl : Opts w ok lv l) (hmax : l.length <= 1000000) :
 Calls Tryz.prog 118 #[lv] w fun e w' => ∃ v, e = .returned v /\ ORow w' w.heap.size v l /\ Below w.heap.size w w' := by
 obtain ⟨sa, c, rfl, hc, hm⟩ := hl.form; have q22 : ∀ (w : World) (a : Option Addr) (n c n' c' : Nat), (binOp .eql 76 (.slice a n c) (.slice none n' c')).run Tryz.prog w = .ok (.bool a.isNone) w := fun w a n c n' c' => Lib.run_eql_slice_nil w _ _ a n c n' c' Tryz.underlying76
 cases sa with
 | none =>
  go_enter Tryz.func118, Tryz.ntmps118
  go_wp2
  go_ret
  have e : l = [] := by
   obtain ⟨_, _, _, hv, _, _, h | ⟨_, _, hs, _⟩⟩ := hl
   . exact List.map_eq_nil_iff.1 h
   . have := (Value.slice.inj hv).1; rw [hs] at this; cases this
  subst e; exact ⟨_, rfl, ORow.nil _ _, Below.refl _ _⟩
 | some ad =>
  obtain ⟨i0, z, hi, hz0, hz1, hz2, hzs⟩ := opt_info; have hfl := hl.flat (by decide); have hlen : (optL l).flatten.length = l.length * 2 := by rw [flatten_len _ (optL_k l), optL_len]
  have A : Aside (∀ j u, (optL l).flatten[j]? = some u -> w.cell? (ad.add j) = some u) := hfl; clear hfl; go_enter Tryz.func118, Tryz.ntmps118
  go_wp2_with (at_builtin; refine wpList_append_own _ rfl _ _ 76 rfl w.heap.size 213 i0 z 2 24 Tryz.underlying76 hi hz0 hz1 hz2 hzs (by decide) _ _ _ rfl (World.ownsRow_made w #[] 0 (Nat.le_refl _) (Nat.zero_le _) (by simp)) ad l.length c (optL l).flatten rfl ?qc1 ?qc2 ?qc3 ?qc4 ?qc5 ?qc6 ?_)
  case qc1 => exact hlen
  case qc2 =>
   intro j u hj; exact Lib.cell?_alloc_some _ (A.out j u hj)
  case qc3 => exact opt_bytes l
  case qc4 => rw [Nat.zero_add]; unfold maxLen; omega
  case qc5 => rw [Nat.zero_add]; omega
  case qc6 => simp
  intro v' w1 hown hgrow hnil
  go_wp2
  go_ret; refine ⟨v', rfl, by simpa [ORow] using hown, ?_⟩; exact ((Below.refl _ w).alloc (Nat.le_refl _) _).grown hgrow (by simp) (by intro k hk; simp [Value.ownBlock] at hk; omega)
end Go.Proofs.YtoblffnlopmebaaGreat
