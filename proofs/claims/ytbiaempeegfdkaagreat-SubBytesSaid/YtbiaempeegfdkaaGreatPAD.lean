import Derived.Test.YtbiaempeegfdkaaGreatProg
import Derived.Test.YtbiaempeegfdkaaGreatPAB
import Derived.KernelRfl
set_option linter.unusedVariables false
set_option linter.unusedSimpArgs false
set_option maxHeartbeats 16000000
namespace Go.Proofs.YtbiaempeegfdkaaGreat
open Go.RowKit Go.Tg Go.Maps
theorem laidOut : laidOutB Tryz.prog = true := by kernel_rfl
theorem kt48 : Tryz.prog.keyTypeAt 3 213 = true := by kernel_rfl
theorem sz48 : decide (213 < Tryz.prog.types.size) = true := by kernel_rfl
theorem wd48 : (match Tryz.prog.underlying 213 with | some (.array _ _) | some (.struct _) => true | _ => false) = true := by kernel_rfl
set_option maxRecDepth 100000 in
theorem keyed48 : Keyed Tryz.prog 213 := Keyed.of_law (deep_law_laid laidOut (m := 3) (by omega) (of_decide_eq_true sz48) kt48 wd48)
theorem kv48 (a b : Int) (ha : (Lit.int .i64 a).wf = true) (hb : (Lit.int .i64 b).wf = true) : KV Tryz.prog 213 (keyV a b) := by
 unfold KV keyV; have h1 : Tryz.prog.keyType 213 = true := by kernel_rfl
 have h3 : (Value.agg #[Value.int .i64 a, Value.int .i64 b]).formed Tryz.prog 213 = true := by kernel_rfl
 have h2 : (Tryz.prog.keyLits (Tryz.prog.types.size + 1) 213 (Value.agg #[Value.int .i64 a, Value.int .i64 b]).cells.toList) = some [.int .i64 a, .int .i64 b] := by
  obtain ⟨d, hd⟩ : ∃ d, Tryz.prog.types.size + 1 = d + 2 := ⟨Tryz.prog.types.size - 1, by kernel_rfl⟩; have c48 : Tryz.prog.cellsOf 213 = 2 := by kernel_rfl
  have c3 : Tryz.prog.cellsOf 3 = 1 := by kernel_rfl
  have cs : (Value.agg #[Value.int .i64 a, Value.int .i64 b]).cells.toList = [Value.int .i64 a, Value.int .i64 b] := rfl; rw [hd, cs]; generalize hwa : (Lit.int .i64 a).wf = wa at ha; generalize hwb : (Lit.int .i64 b).wf = wb at hb; subst ha hb; simp [Program.keyLits, Tryz.underlying213, Tryz.underlying3, c48, c3, hwa, hwb]
 simp only [keyOf, Tryz.underlying213, h1, h2, h3]; exact ⟨_, rfl⟩
theorem tabT : TabTypes Tryz.prog 210 213 208 116 3 where
 keyed := keyed48
 ht := Tryz.underlying210
 kv := kv48
 bK w a b := by kernel_rfl
 bE w n sa sl sc := by kernel_rfl
 bS1 w a := by kernel_rfl
 bS2 w a b := by kernel_rfl
 bS3 w a b c := by kernel_rfl
 zE w := by kernel_rfl
def calledL : List Row := [(0, 0, 2, []), (1, 0, 6, [4, 6]), (2, 1, 0, []), (3, 1, 1, [2]), (4, 1, 0, []), (5, 1, 1, []), (6, 1, 1, []), (7, 1, 1, []), (8, 1, 1, []), (9, 1, 1, [1]), (0, 2, 1, [2]), (2, 2, 6, [4, 6]), (4, 2, 5, []), (1, 3, 0, [3]), (3, 3, 2, []), (5, 3, 4, []), (6, 3, 4, [4, 9]), (7, 3, 4, [4, 9]), (8, 3, 4, [4, 9]), (9, 3, 4, [1, 4, 9]), (4, 4, 4, [9]), (5, 4, 5, [9]), (6, 4, 6, [6]), (7, 4, 6, [6]), (8, 4, 8, [6]), (4, 5, 2, [3]), (5, 5, 3, [3]), (6, 5, 3, [3]), (7, 5, 3, [3]), (8, 5, 3, [3]), (2, 6, 2, [10]), (3, 6, 8, [4, 6, 7]), (6, 6, 8, [7]), (7, 6, 9, [7, 0]), (8, 6, 8, [7]), (9, 6, 8, [1, 6, 7]), (2, 7, 2, [10]), (3, 7, 6, [4, 6, 8]), (6, 7, 6, [8]), (7, 7, 7, [8]), (8, 7, 6, [8]), (9, 7, 6, [1, 6, 8])]
def answeredL : List Row := [(2, 8, 2, [10]), (3, 8, 3, [10]), (6, 8, 7, [4]), (7, 8, 6, [6]), (8, 8, 9, [4, 0]), (9, 8, 6, [1, 6]), (2, 9, 2, [10]), (3, 9, 3, [10]), (6, 9, 6, [4, 6]), (7, 9, 6, [6]), (8, 9, 8, [4, 6]), (9, 9, 6, [1, 6]), (2, 10, 2, [10]), (3, 10, 3, [10]), (4, 10, 4, [10]), (5, 10, 5, [10]), (6, 10, 6, [10]), (7, 10, 6, [10]), (8, 10, 6, [10]), (9, 10, 5, [1, 5, 10]), (4, 11, 2, [3]), (5, 11, 3, [3]), (7, 11, 6, []), (9, 11, 6, [1, 6]), (2, 12, 2, [11]), (3, 12, 3, [11]), (4, 12, 4, [11]), (5, 12, 5, [11]), (6, 12, 6, [11]), (7, 12, 7, [11]), (8, 12, 8, [11]), (9, 12, 9, [11]), (7, 13, 6, []), (2, 14, 2, [3]), (3, 14, 3, [3]), (4, 14, 2, [3]), (5, 14, 3, [3]), (6, 14, 3, [3]), (7, 14, 3, [3]), (8, 14, 3, [3]), (9, 14, 5, [1, 4, 9]), (9, 15, 9, [12])]
def rowsOk (l : List Row) : Bool := l.all fun r => (Lit.int .i64 r.1).wf && ((Lit.int .i64 r.2.1).wf && decide (r.2.2.2.length <= 3))
theorem rowsOk_spec {l : List Row} (h : rowsOk l = true) : ∀ r ∈ l, (Lit.int .i64 r.1).wf = true /\ (Lit.int .i64 r.2.1).wf = true /\ r.2.2.2.length <= 3 := by
 intro r hr; have := List.all_eq_true.1 h r hr
 simpa only [Bool.and_eq_true, decide_eq_true_eq] using this
theorem follows_mixed : Tryz.prog.follows .mixedOrders = true := by kernel_rfl
set_option maxRecDepth 100000 in
theorem called_any (w : World) : Calls Tryz.prog 184 #[] w fun e w' => ∃ b, e = .returned (.map (some b)) /\ w.heap.size <= b /\
 TableAt Tryz.prog 213 3 w.heap.size w' b (lookupL calledL) /\ Below w.heap.size w w' := by
 refine calls_of_wp Tryz.func184 rfl ?_; refine wp_seq ?_; refine wp_region_lit ?_; refine step_val (v := .map none) (w' := w) rfl rfl ?_; refine wp_seq ?_; refine wp_lit tabT follows_mixed (by kernel_rfl) calledL (by kernel_rfl) (by kernel_rfl) (by kernel_rfl) (by kernel_rfl) (by kernel_rfl) (rowsOk_spec (by kernel_rfl)) (by decide +kernel) (of_decide_eq_true (by kernel_rfl)) ?_; intro a' w' b hd hs he hb ht hbl; refine wp_ret ?_; exact bodyPost_ret (v := .map (some b)) (by rw [results_tmp rfl]; exact congrArg (fun v => Result.ok v w') he) hd ⟨b, rfl, hb, ht, hbl⟩
set_option maxRecDepth 100000 in
theorem answered_any (w : World) : Calls Tryz.prog 186 #[] w fun e w' => ∃ b, e = .returned (.map (some b)) /\ w.heap.size <= b /\
 TableAt Tryz.prog 213 3 w.heap.size w' b (lookupL answeredL) /\ Below w.heap.size w w' := by
 refine calls_of_wp Tryz.func186 rfl ?_; refine wp_seq ?_; refine wp_region_lit ?_; refine step_val (v := .map none) (w' := w) rfl rfl ?_; refine wp_seq ?_; refine wp_lit tabT follows_mixed (by kernel_rfl) answeredL (by kernel_rfl) (by kernel_rfl) (by kernel_rfl) (by kernel_rfl) (by kernel_rfl) (rowsOk_spec (by kernel_rfl)) (by decide +kernel) (of_decide_eq_true (by kernel_rfl)) ?_; intro a' w' b hd hs he hb ht hbl; refine wp_ret ?_; exact bodyPost_ret (v := .map (some b)) (by rw [results_tmp rfl]; exact congrArg (fun v => Result.ok v w') he) hd ⟨b, rfl, hb, ht, hbl⟩
end Go.Proofs.YtbiaempeegfdkaaGreat
