import Derived.Test.YtignponfoheaeaaGreatProg
import Derived.Test.YtignponfoheaeaaGreatRAB
import Derived.KernelRfl
set_option linter.unusedVariables false
set_option linter.unusedSimpArgs false
set_option maxHeartbeats 16000000
namespace Go.Proofs.YtignponfoheaeaaGreat
open Go.RowKit Go.Tg Go.Maps
theorem laidOut : laidOutB Tryz.prog = true := by kernel_rfl
theorem kt48 : Tryz.prog.keyTypeAt 3 127 = true := by kernel_rfl
theorem sz48 : decide (127 < Tryz.prog.types.size) = true := by kernel_rfl
theorem wd48 : (match Tryz.prog.underlying 127 with | some (.array _ _) | some (.struct _) => true | _ => false) = true := by kernel_rfl
set_option maxRecDepth 100000 in
theorem keyed48 : Keyed Tryz.prog 127 := Keyed.of_law (deep_law_laid laidOut (m := 3) (by omega) (of_decide_eq_true sz48) kt48 wd48)
theorem kv48 (a b : Int) (ha : (Lit.int .i64 a).wf = true) (hb : (Lit.int .i64 b).wf = true) : KV Tryz.prog 127 (keyV a b) := by
 unfold KV keyV; have h1 : Tryz.prog.keyType 127 = true := by kernel_rfl
 have h3 : (Value.agg #[Value.int .i64 a, Value.int .i64 b]).formed Tryz.prog 127 = true := by kernel_rfl
 have h2 : (Tryz.prog.keyLits (Tryz.prog.types.size + 1) 127 (Value.agg #[Value.int .i64 a, Value.int .i64 b]).cells.toList) = some [.int .i64 a, .int .i64 b] := by
  obtain ⟨d, hd⟩ : ∃ d, Tryz.prog.types.size + 1 = d + 2 := ⟨Tryz.prog.types.size - 1, by kernel_rfl⟩; have c48 : Tryz.prog.cellsOf 127 = 2 := by kernel_rfl
  have c3 : Tryz.prog.cellsOf 3 = 1 := by kernel_rfl
  have cs : (Value.agg #[Value.int .i64 a, Value.int .i64 b]).cells.toList = [Value.int .i64 a, Value.int .i64 b] := rfl; rw [hd, cs]; generalize hwa : (Lit.int .i64 a).wf = wa at ha; generalize hwb : (Lit.int .i64 b).wf = wb at hb; subst ha hb; simp [Program.keyLits, Tryz.underlying127, Tryz.underlying3, c48, c3, hwa, hwb]
 simp only [keyOf, Tryz.underlying127, h1, h2, h3]; exact ⟨_, rfl⟩
theorem tabT : TabTypes Tryz.prog 124 127 122 43 3 where
 keyed := keyed48
 ht := Tryz.underlying124
 kv := kv48
 bK w a b := by kernel_rfl
 bE w n sa sl sc := by kernel_rfl
 bS1 w a := by kernel_rfl
 bS2 w a b := by kernel_rfl
 bS3 w a b c := by kernel_rfl
 zE w := by kernel_rfl
def calledL : List Row := [(0, 0, 2, []), (1, 0, 6, [4, 6]), (2, 1, 0, []), (3, 1, 1, [2]), (4, 1, 0, []), (5, 1, 1, []), (6, 1, 1, []), (7, 1, 1, []), (8, 1, 1, []), (9, 1, 1, [1]), (0, 2, 1, [2]), (2, 2, 6, [4, 6]), (4, 2, 5, []), (1, 3, 0, [3]), (3, 3, 2, []), (5, 3, 4, []), (6, 3, 4, [4, 9]), (7, 3, 4, [4, 9]), (8, 3, 4, [4, 9]), (9, 3, 4, [1, 4, 9]), (4, 4, 4, [9]), (5, 4, 5, [9]), (6, 4, 6, [6]), (7, 4, 6, [6]), (8, 4, 8, [6]), (4, 5, 2, [3]), (5, 5, 3, [3]), (6, 5, 3, [3]), (7, 5, 3, [3]), (8, 5, 3, [3]), (2, 6, 2, [10]), (3, 6, 8, [4, 6, 7]), (6, 6, 8, [7]), (7, 6, 9, [7, 0]), (8, 6, 8, [7]), (9, 6, 8, [1, 6, 7]), (2, 7, 2, [10]), (3, 7, 6, [4, 6, 8]), (6, 7, 6, [8]), (7, 7, 7, [8]), (8, 7, 6, [8]), (9, 7, 6, [1, 6, 8])]
def answeredL : List Row := [(2, 8, 2, [10]), (3, 8, 3, [10]), (6, 8, 7, [4]), (7, 8, 6, [6]), (8, 8, 9, [4, 0]), (9, 8, 6, [1, 6]), (2, 9, 2, [10]), (3, 9, 3, [10]), (6, 9, 6, [4, 6]), (7, 9, 6, [6]), (8, 9, 8, [4, 6]), (9, 9, 6, [1, 6]), (2, 10, 2, [10]), (3, 10, 3, [10]), (4, 10, 4, [10]), (5, 10, 5, [10]), (6, 10, 6, [10]), (7, 10, 6, [10]), (8, 10, 6, [10]), (9, 10, 5, [1, 5, 10]), (4, 11, 2, [3]), (5, 11, 3, [3]), (7, 11, 6, []), (9, 11, 6, [1, 6]), (2, 12, 2, [11]), (3, 12, 3, [11]), (4, 12, 4, [11]), (5, 12, 5, [11]), (6, 12, 6, [11]), (7, 12, 7, [11]), (8, 12, 8, [11]), (9, 12, 9, [11]), (7, 13, 6, []), (2, 14, 2, [3]), (3, 14, 3, [3]), (4, 14, 2, [3]), (5, 14, 3, [3]), (6, 14, 3, [3]), (7, 14, 3, [3]), (8, 14, 3, [3]), (9, 14, 5, [1, 4, 9]), (9, 15, 9, [12])]
def rowsOk (l : List Row) : Bool := l.all fun r => (Lit.int .i64 r.1).wf && ((Lit.int .i64 r.2.1).wf && decide (r.2.2.2.length <= 3))
theorem rowsOk_spec {l : List Row} (h : rowsOk l = true) : ∀ r ∈ l, (Lit.int .i64 r.1).wf = true /\ (Lit.int .i64 r.2.1).wf = true /\ r.2.2.2.length <= 3 := by
 intro r hr; have := List.all_eq_true.1 h r hr
 simpa only [Bool.and_eq_true, decide_eq_true_eq] using this
theorem follows_mixed : Tryz.prog.follows .mixedOrders = true := by kernel_rfl
set_option maxRecDepth 100000 in
theorem called_any (w : World) : Calls Tryz.prog 181 #[] w fun e w' => ∃ b, e = .returned (.map (some b)) /\ w.heap.size <= b /\
 TableAt Tryz.prog 127 3 w.heap.size w' b (lookupL calledL) /\ Below w.heap.size w w' := by
 refine calls_of_wp Tryz.func181 rfl ?_; refine wp_seq ?_; refine wp_region_lit ?_; refine step_val (v := .map none) (w' := w) rfl rfl ?_; refine wp_seq ?_; refine wp_lit tabT follows_mixed (by kernel_rfl) calledL (by kernel_rfl) (by kernel_rfl) (by kernel_rfl) (by kernel_rfl) (by kernel_rfl) (rowsOk_spec (by kernel_rfl)) (by decide +kernel) (of_decide_eq_true (by kernel_rfl)) ?_; intro a' w' b hd hs he hb ht hbl; refine wp_ret ?_; exact bodyPost_ret (v := .map (some b)) (by rw [results_tmp rfl]; exact congrArg (fun v => Result.ok v w') he) hd ⟨b, rfl, hb, ht, hbl⟩
set_option maxRecDepth 100000 in
theorem answered_any (w : World) : Calls Tryz.prog 183 #[] w fun e w' => ∃ b, e = .returned (.map (some b)) /\ w.heap.size <= b /\
 TableAt Tryz.prog 127 3 w.heap.size w' b (lookupL answeredL) /\ Below w.heap.size w w' := by
 refine calls_of_wp Tryz.func183 rfl ?_; refine wp_seq ?_; refine wp_region_lit ?_; refine step_val (v := .map none) (w' := w) rfl rfl ?_; refine wp_seq ?_; refine wp_lit tabT follows_mixed (by kernel_rfl) answeredL (by kernel_rfl) (by kernel_rfl) (by kernel_rfl) (by kernel_rfl) (by kernel_rfl) (rowsOk_spec (by kernel_rfl)) (by decide +kernel) (of_decide_eq_true (by kernel_rfl)) ?_; intro a' w' b hd hs he hb ht hbl; refine wp_ret ?_; exact bodyPost_ret (v := .map (some b)) (by rw [results_tmp rfl]; exact congrArg (fun v => Result.ok v w') he) hd ⟨b, rfl, hb, ht, hbl⟩
theorem stillTexts_nil (bb : Nat) (w : World) (c1 : w.cell? ⟨bb, 0, none⟩ = some (.slice none 0 0)) : Calls Tryz.prog 68 #[.pointer (some ⟨bb, 0, none⟩)] w fun e w' => e = .returned (.bool true) /\ w = w' := by
 go_enter Tryz.func68, Tryz.ntmps68; go_wp2_with fail; refine wp_loop_rounds 1 ?_; rw [rounds_succ]; go_wp2_with fail; go_ret; exact ⟨rfl, rfl⟩
theorem putTexts_nil (bb : Nat) (w : World) (c1 : w.cell? ⟨bb, 0, none⟩ = some (.slice none 0 0)) : Calls Tryz.prog 90 #[.pointer (some ⟨bb, 0, none⟩)] w fun e w' => e = .returned (.tuple #[]) /\ w = w' := by
 go_enter Tryz.func90, Tryz.ntmps90; go_wp2_with fail; refine wp_loop_rounds 1 ?_; rw [rounds_succ]; go_wp2_with fail
 go_end0
 exact ⟨rfl, rfl⟩
theorem growTexts_nil (bb : Nat) (w : World) (c1 : w.cell? ⟨bb, 0, none⟩ = some (.slice none 0 0)) : Calls Tryz.prog 104 #[.pointer (some ⟨bb, 0, none⟩)] w fun e w' => e = .returned (.slice none 0 0) /\ w = w' := by
 go_enter Tryz.func104, Tryz.ntmps104; go_wp2_with fail; refine wp_loop_rounds 1 ?_; rw [rounds_succ]; go_wp2_with fail; go_ret; exact ⟨rfl, rfl⟩
theorem markedTexts_nil (w : World) : Calls Tryz.prog 122 #[.slice none 0 0] w fun e w' => e = .returned (.bool true) /\ w = w' := by
 go_enter Tryz.func122, Tryz.ntmps122; go_wp2_with fail; refine wp_loop_rounds 1 ?_; rw [rounds_succ]; go_wp2_with fail; go_ret; exact ⟨rfl, rfl⟩
theorem stillInts_nil (bb : Nat) (w : World) (c1 : w.cell? ⟨bb, 2, none⟩ = some (.slice none 0 0)) : Calls Tryz.prog 69 #[.pointer (some ⟨bb, 0, none⟩)] w fun e w' => e = .returned (.bool true) /\ w = w' := by
 go_enter Tryz.func69, Tryz.ntmps69; go_wp2_with fail; refine wp_loop_rounds 1 ?_; rw [rounds_succ]; go_wp2_with fail; go_ret; exact ⟨rfl, rfl⟩
theorem putInts_nil (bb : Nat) (w : World) (c1 : w.cell? ⟨bb, 2, none⟩ = some (.slice none 0 0)) : Calls Tryz.prog 91 #[.pointer (some ⟨bb, 0, none⟩)] w fun e w' => e = .returned (.tuple #[]) /\ w = w' := by
 go_enter Tryz.func91, Tryz.ntmps91; go_wp2_with fail; refine wp_loop_rounds 1 ?_; rw [rounds_succ]; go_wp2_with fail
 go_end0
 exact ⟨rfl, rfl⟩
theorem growInts_nil (bb : Nat) (w : World) (c1 : w.cell? ⟨bb, 2, none⟩ = some (.slice none 0 0)) : Calls Tryz.prog 105 #[.pointer (some ⟨bb, 0, none⟩)] w fun e w' => e = .returned (.slice none 0 0) /\ w = w' := by
 go_enter Tryz.func105, Tryz.ntmps105; go_wp2_with fail; refine wp_loop_rounds 1 ?_; rw [rounds_succ]; go_wp2_with fail; go_ret; exact ⟨rfl, rfl⟩
theorem markedInts_nil (w : World) : Calls Tryz.prog 123 #[.slice none 0 0] w fun e w' => e = .returned (.bool true) /\ w = w' := by
 go_enter Tryz.func123, Tryz.ntmps123; go_wp2_with fail; refine wp_loop_rounds 1 ?_; rw [rounds_succ]; go_wp2_with fail; go_ret; exact ⟨rfl, rfl⟩
theorem stillEthers_nil (bb : Nat) (w : World) (c1 : w.cell? ⟨bb, 4, none⟩ = some (.slice none 0 0)) : Calls Tryz.prog 70 #[.pointer (some ⟨bb, 0, none⟩)] w fun e w' => e = .returned (.bool true) /\ w = w' := by
 go_enter Tryz.func70, Tryz.ntmps70; go_wp2_with fail; refine wp_loop_rounds 1 ?_; rw [rounds_succ]; go_wp2_with fail; go_ret; exact ⟨rfl, rfl⟩
theorem putEthers_nil (bb : Nat) (w : World) (c1 : w.cell? ⟨bb, 4, none⟩ = some (.slice none 0 0)) : Calls Tryz.prog 92 #[.pointer (some ⟨bb, 0, none⟩)] w fun e w' => e = .returned (.tuple #[]) /\ w = w' := by
 go_enter Tryz.func92, Tryz.ntmps92; go_wp2_with fail; refine wp_loop_rounds 1 ?_; rw [rounds_succ]; go_wp2_with fail
 go_end0
 exact ⟨rfl, rfl⟩
theorem growEthers_nil (bb : Nat) (w : World) (c1 : w.cell? ⟨bb, 4, none⟩ = some (.slice none 0 0)) : Calls Tryz.prog 106 #[.pointer (some ⟨bb, 0, none⟩)] w fun e w' => e = .returned (.slice none 0 0) /\ w = w' := by
 go_enter Tryz.func106, Tryz.ntmps106; go_wp2_with fail; refine wp_loop_rounds 1 ?_; rw [rounds_succ]; go_wp2_with fail; go_ret; exact ⟨rfl, rfl⟩
theorem markedEthers_nil (w : World) : Calls Tryz.prog 124 #[.slice none 0 0] w fun e w' => e = .returned (.bool true) /\ w = w' := by
 go_enter Tryz.func124, Tryz.ntmps124; go_wp2_with fail; refine wp_loop_rounds 1 ?_; rw [rounds_succ]; go_wp2_with fail; go_ret; exact ⟨rfl, rfl⟩
theorem stillTags_nil (bb : Nat) (w : World) (c1 : w.cell? ⟨bb, 6, none⟩ = some (.slice none 0 0)) : Calls Tryz.prog 71 #[.pointer (some ⟨bb, 0, none⟩)] w fun e w' => e = .returned (.bool true) /\ w = w' := by
 go_enter Tryz.func71, Tryz.ntmps71; go_wp2_with fail; refine wp_loop_rounds 1 ?_; rw [rounds_succ]; go_wp2_with fail; go_ret; exact ⟨rfl, rfl⟩
theorem putTags_nil (bb : Nat) (w : World) (c1 : w.cell? ⟨bb, 6, none⟩ = some (.slice none 0 0)) : Calls Tryz.prog 93 #[.pointer (some ⟨bb, 0, none⟩)] w fun e w' => e = .returned (.tuple #[]) /\ w = w' := by
 go_enter Tryz.func93, Tryz.ntmps93; go_wp2_with fail; refine wp_loop_rounds 1 ?_; rw [rounds_succ]; go_wp2_with fail
 go_end0
 exact ⟨rfl, rfl⟩
theorem growTags_nil (bb : Nat) (w : World) (c1 : w.cell? ⟨bb, 6, none⟩ = some (.slice none 0 0)) : Calls Tryz.prog 107 #[.pointer (some ⟨bb, 0, none⟩)] w fun e w' => e = .returned (.slice none 0 0) /\ w = w' := by
 go_enter Tryz.func107, Tryz.ntmps107; go_wp2_with fail; refine wp_loop_rounds 1 ?_; rw [rounds_succ]; go_wp2_with fail; go_ret; exact ⟨rfl, rfl⟩
theorem markedTags_nil (w : World) : Calls Tryz.prog 125 #[.slice none 0 0] w fun e w' => e = .returned (.bool true) /\ w = w' := by
 go_enter Tryz.func125, Tryz.ntmps125; go_wp2_with fail; refine wp_loop_rounds 1 ?_; rw [rounds_succ]; go_wp2_with fail; go_ret; exact ⟨rfl, rfl⟩
theorem stillAvps_nil (bb : Nat) (w : World) (c1 : w.cell? ⟨bb, 12, none⟩ = some (.slice none 0 0)) : Calls Tryz.prog 74 #[.pointer (some ⟨bb, 0, none⟩)] w fun e w' => e = .returned (.bool true) /\ w = w' := by
 go_enter Tryz.func74, Tryz.ntmps74; go_wp2_with fail; refine wp_loop_rounds 1 ?_; rw [rounds_succ]; go_wp2_with fail; go_ret; exact ⟨rfl, rfl⟩
theorem putAvps_nil (bb : Nat) (w : World) (c1 : w.cell? ⟨bb, 12, none⟩ = some (.slice none 0 0)) : Calls Tryz.prog 95 #[.pointer (some ⟨bb, 0, none⟩)] w fun e w' => e = .returned (.tuple #[]) /\ w = w' := by
 go_enter Tryz.func95, Tryz.ntmps95; go_wp2_with fail; refine wp_loop_rounds 1 ?_; rw [rounds_succ]; go_wp2_with fail
 go_end0
 exact ⟨rfl, rfl⟩
theorem growAvps_nil (bb : Nat) (w : World) (c1 : w.cell? ⟨bb, 12, none⟩ = some (.slice none 0 0)) : Calls Tryz.prog 110 #[.pointer (some ⟨bb, 0, none⟩)] w fun e w' => e = .returned (.slice none 0 0) /\ w = w' := by
 go_enter Tryz.func110, Tryz.ntmps110; go_wp2_with fail; refine wp_loop_rounds 1 ?_; rw [rounds_succ]; go_wp2_with fail; go_ret; exact ⟨rfl, rfl⟩
theorem markedAvps_nil (w : World) : Calls Tryz.prog 128 #[.slice none 0 0] w fun e w' => e = .returned (.bool true) /\ w = w' := by
 go_enter Tryz.func128, Tryz.ntmps128; go_wp2_with fail; refine wp_loop_rounds 1 ?_; rw [rounds_succ]; go_wp2_with fail; go_ret; exact ⟨rfl, rfl⟩
theorem stillCtls_nil (bb : Nat) (w : World) (c1 : w.cell? ⟨bb, 14, none⟩ = some (.slice none 0 0)) : Calls Tryz.prog 75 #[.pointer (some ⟨bb, 0, none⟩)] w fun e w' => e = .returned (.bool true) /\ w = w' := by
 go_enter Tryz.func75, Tryz.ntmps75; go_wp2_with fail; refine wp_loop_rounds 1 ?_; rw [rounds_succ]; go_wp2_with fail; go_ret; exact ⟨rfl, rfl⟩
theorem putCtls_nil (bb : Nat) (w : World) (c1 : w.cell? ⟨bb, 14, none⟩ = some (.slice none 0 0)) : Calls Tryz.prog 87 #[.pointer (some ⟨bb, 0, none⟩)] w fun e w' => e = .returned (.tuple #[]) /\ w = w' := by
 go_enter Tryz.func87, Tryz.ntmps87; go_wp2_with fail; refine wp_loop_rounds 1 ?_; rw [rounds_succ]; go_wp2_with fail
 go_end0
 exact ⟨rfl, rfl⟩
theorem growCtls_nil (bb : Nat) (w : World) (c1 : w.cell? ⟨bb, 14, none⟩ = some (.slice none 0 0)) : Calls Tryz.prog 111 #[.pointer (some ⟨bb, 0, none⟩)] w fun e w' => e = .returned (.slice none 0 0) /\ w = w' := by
 go_enter Tryz.func111, Tryz.ntmps111; go_wp2_with fail; refine wp_loop_rounds 1 ?_; rw [rounds_succ]; go_wp2_with fail; go_ret; exact ⟨rfl, rfl⟩
theorem markedCtls_nil (w : World) : Calls Tryz.prog 129 #[.slice none 0 0] w fun e w' => e = .returned (.bool true) /\ w = w' := by
 go_enter Tryz.func129, Tryz.ntmps129; go_wp2_with fail; refine wp_loop_rounds 1 ?_; rw [rounds_succ]; go_wp2_with fail; go_ret; exact ⟨rfl, rfl⟩
theorem stillKeys_nil (bb : Nat) (w : World) (c1 : w.cell? ⟨bb, 16, none⟩ = some (.slice none 0 0)) : Calls Tryz.prog 76 #[.pointer (some ⟨bb, 0, none⟩)] w fun e w' => e = .returned (.bool true) /\ w = w' := by
 go_enter Tryz.func76, Tryz.ntmps76; go_wp2_with fail; refine wp_loop_rounds 1 ?_; rw [rounds_succ]; go_wp2_with fail; go_ret; exact ⟨rfl, rfl⟩
theorem putKeys_nil (bb : Nat) (w : World) (c1 : w.cell? ⟨bb, 16, none⟩ = some (.slice none 0 0)) : Calls Tryz.prog 96 #[.pointer (some ⟨bb, 0, none⟩)] w fun e w' => e = .returned (.tuple #[]) /\ w = w' := by
 go_enter Tryz.func96, Tryz.ntmps96; go_wp2_with fail; refine wp_loop_rounds 1 ?_; rw [rounds_succ]; go_wp2_with fail
 go_end0
 exact ⟨rfl, rfl⟩
theorem growKeys_nil (bb : Nat) (w : World) (c1 : w.cell? ⟨bb, 16, none⟩ = some (.slice none 0 0)) : Calls Tryz.prog 112 #[.pointer (some ⟨bb, 0, none⟩)] w fun e w' => e = .returned (.slice none 0 0) /\ w = w' := by
 go_enter Tryz.func112, Tryz.ntmps112; go_wp2_with fail; refine wp_loop_rounds 1 ?_; rw [rounds_succ]; go_wp2_with fail; go_ret; exact ⟨rfl, rfl⟩
theorem markedKeys_nil (w : World) : Calls Tryz.prog 130 #[.slice none 0 0] w fun e w' => e = .returned (.bool true) /\ w = w' := by
 go_enter Tryz.func130, Tryz.ntmps130; go_wp2_with fail; refine wp_loop_rounds 1 ?_; rw [rounds_succ]; go_wp2_with fail; go_ret; exact ⟨rfl, rfl⟩
theorem stillSessions_nil (bb : Nat) (w : World) (c1 : w.cell? ⟨bb, 18, none⟩ = some (.slice none 0 0)) : Calls Tryz.prog 77 #[.pointer (some ⟨bb, 0, none⟩)] w fun e w' => e = .returned (.bool true) /\ w = w' := by
 go_enter Tryz.func77, Tryz.ntmps77; go_wp2_with fail; refine wp_loop_rounds 1 ?_; rw [rounds_succ]; go_wp2_with fail; go_ret; exact ⟨rfl, rfl⟩
theorem putSessions_nil (bb : Nat) (w : World) (c1 : w.cell? ⟨bb, 18, none⟩ = some (.slice none 0 0)) : Calls Tryz.prog 97 #[.pointer (some ⟨bb, 0, none⟩)] w fun e w' => e = .returned (.tuple #[]) /\ w = w' := by
 go_enter Tryz.func97, Tryz.ntmps97; go_wp2_with fail; refine wp_loop_rounds 1 ?_; rw [rounds_succ]; go_wp2_with fail
 go_end0
 exact ⟨rfl, rfl⟩
theorem growSessions_nil (bb : Nat) (w : World) (c1 : w.cell? ⟨bb, 18, none⟩ = some (.slice none 0 0)) : Calls Tryz.prog 113 #[.pointer (some ⟨bb, 0, none⟩)] w fun e w' => e = .returned (.slice none 0 0) /\ w = w' := by
 go_enter Tryz.func113, Tryz.ntmps113; go_wp2_with fail; refine wp_loop_rounds 1 ?_; rw [rounds_succ]; go_wp2_with fail; go_ret; exact ⟨rfl, rfl⟩
theorem markedSessions_nil (w : World) : Calls Tryz.prog 131 #[.slice none 0 0] w fun e w' => e = .returned (.bool true) /\ w = w' := by
 go_enter Tryz.func131, Tryz.ntmps131; go_wp2_with fail; refine wp_loop_rounds 1 ?_; rw [rounds_succ]; go_wp2_with fail; go_ret; exact ⟨rfl, rfl⟩
theorem stillIds_nil (bb : Nat) (w : World) (c1 : w.cell? ⟨bb, 20, none⟩ = some (.slice none 0 0)) : Calls Tryz.prog 78 #[.pointer (some ⟨bb, 0, none⟩)] w fun e w' => e = .returned (.bool true) /\ w = w' := by
 go_enter Tryz.func78, Tryz.ntmps78; go_wp2_with fail; refine wp_loop_rounds 1 ?_; rw [rounds_succ]; go_wp2_with fail; go_ret; exact ⟨rfl, rfl⟩
theorem putIds_nil (bb : Nat) (w : World) (c1 : w.cell? ⟨bb, 20, none⟩ = some (.slice none 0 0)) : Calls Tryz.prog 98 #[.pointer (some ⟨bb, 0, none⟩)] w fun e w' => e = .returned (.tuple #[]) /\ w = w' := by
 go_enter Tryz.func98, Tryz.ntmps98; go_wp2_with fail; refine wp_loop_rounds 1 ?_; rw [rounds_succ]; go_wp2_with fail
 go_end0
 exact ⟨rfl, rfl⟩
theorem growIds_nil (bb : Nat) (w : World) (c1 : w.cell? ⟨bb, 20, none⟩ = some (.slice none 0 0)) : Calls Tryz.prog 114 #[.pointer (some ⟨bb, 0, none⟩)] w fun e w' => e = .returned (.slice none 0 0) /\ w = w' := by
 go_enter Tryz.func114, Tryz.ntmps114; go_wp2_with fail; refine wp_loop_rounds 1 ?_; rw [rounds_succ]; go_wp2_with fail; go_ret; exact ⟨rfl, rfl⟩
theorem markedIds_nil (w : World) : Calls Tryz.prog 132 #[.slice none 0 0] w fun e w' => e = .returned (.bool true) /\ w = w' := by
 go_enter Tryz.func132, Tryz.ntmps132; go_wp2_with fail; refine wp_loop_rounds 1 ?_; rw [rounds_succ]; go_wp2_with fail; go_ret; exact ⟨rfl, rfl⟩
theorem stillGrams_nil (bb : Nat) (w : World) (c1 : w.cell? ⟨bb, 22, none⟩ = some (.slice none 0 0)) : Calls Tryz.prog 79 #[.pointer (some ⟨bb, 0, none⟩)] w fun e w' => e = .returned (.bool true) /\ w = w' := by
 go_enter Tryz.func79, Tryz.ntmps79; go_wp2_with fail; refine wp_loop_rounds 1 ?_; rw [rounds_succ]; go_wp2_with fail; go_ret; exact ⟨rfl, rfl⟩
theorem putGrams_nil (bb : Nat) (w : World) (c1 : w.cell? ⟨bb, 22, none⟩ = some (.slice none 0 0)) : Calls Tryz.prog 99 #[.pointer (some ⟨bb, 0, none⟩)] w fun e w' => e = .returned (.tuple #[]) /\ w = w' := by
 go_enter Tryz.func99, Tryz.ntmps99; go_wp2_with fail; refine wp_loop_rounds 1 ?_; rw [rounds_succ]; go_wp2_with fail
 go_end0
 exact ⟨rfl, rfl⟩
theorem growGrams_nil (bb : Nat) (w : World) (c1 : w.cell? ⟨bb, 22, none⟩ = some (.slice none 0 0)) : Calls Tryz.prog 115 #[.pointer (some ⟨bb, 0, none⟩)] w fun e w' => e = .returned (.slice none 0 0) /\ w = w' := by
 go_enter Tryz.func115, Tryz.ntmps115; go_wp2_with fail; refine wp_loop_rounds 1 ?_; rw [rounds_succ]; go_wp2_with fail; go_ret; exact ⟨rfl, rfl⟩
theorem markedGrams_nil (w : World) : Calls Tryz.prog 133 #[.slice none 0 0] w fun e w' => e = .returned (.bool true) /\ w = w' := by
 go_enter Tryz.func133, Tryz.ntmps133; go_wp2_with fail; refine wp_loop_rounds 1 ?_; rw [rounds_succ]; go_wp2_with fail; go_ret; exact ⟨rfl, rfl⟩
theorem stillSays_nil (bb : Nat) (w : World) (c1 : w.cell? ⟨bb, 24, none⟩ = some (.slice none 0 0)) : Calls Tryz.prog 80 #[.pointer (some ⟨bb, 0, none⟩)] w fun e w' => e = .returned (.bool true) /\ w = w' := by
 go_enter Tryz.func80, Tryz.ntmps80; go_wp2_with fail; refine wp_loop_rounds 1 ?_; rw [rounds_succ]; go_wp2_with fail; go_ret; exact ⟨rfl, rfl⟩
theorem putSays_nil (bb : Nat) (w : World) (c1 : w.cell? ⟨bb, 24, none⟩ = some (.slice none 0 0)) : Calls Tryz.prog 88 #[.pointer (some ⟨bb, 0, none⟩)] w fun e w' => e = .returned (.tuple #[]) /\ w = w' := by
 go_enter Tryz.func88, Tryz.ntmps88; go_wp2_with fail; refine wp_loop_rounds 1 ?_; rw [rounds_succ]; go_wp2_with fail
 go_end0
 exact ⟨rfl, rfl⟩
theorem growSays_nil (bb : Nat) (w : World) (c1 : w.cell? ⟨bb, 24, none⟩ = some (.slice none 0 0)) : Calls Tryz.prog 116 #[.pointer (some ⟨bb, 0, none⟩)] w fun e w' => e = .returned (.slice none 0 0) /\ w = w' := by
 go_enter Tryz.func116, Tryz.ntmps116; go_wp2_with fail; refine wp_loop_rounds 1 ?_; rw [rounds_succ]; go_wp2_with fail; go_ret; exact ⟨rfl, rfl⟩
theorem markedSays_nil (w : World) : Calls Tryz.prog 134 #[.slice none 0 0] w fun e w' => e = .returned (.bool true) /\ w = w' := by
 go_enter Tryz.func134, Tryz.ntmps134; go_wp2_with fail; refine wp_loop_rounds 1 ?_; rw [rounds_succ]; go_wp2_with fail; go_ret; exact ⟨rfl, rfl⟩
theorem stillItems_nil (bb : Nat) (w : World) (c1 : w.cell? ⟨bb, 26, none⟩ = some (.slice none 0 0)) : Calls Tryz.prog 81 #[.pointer (some ⟨bb, 0, none⟩)] w fun e w' => e = .returned (.bool true) /\ w = w' := by
 go_enter Tryz.func81, Tryz.ntmps81; go_wp2_with fail; refine wp_loop_rounds 1 ?_; rw [rounds_succ]; go_wp2_with fail; go_ret; exact ⟨rfl, rfl⟩
theorem putItems_nil (bb : Nat) (w : World) (c1 : w.cell? ⟨bb, 26, none⟩ = some (.slice none 0 0)) : Calls Tryz.prog 100 #[.pointer (some ⟨bb, 0, none⟩)] w fun e w' => e = .returned (.tuple #[]) /\ w = w' := by
 go_enter Tryz.func100, Tryz.ntmps100; go_wp2_with fail; refine wp_loop_rounds 1 ?_; rw [rounds_succ]; go_wp2_with fail
 go_end0
 exact ⟨rfl, rfl⟩
theorem growItems_nil (bb : Nat) (w : World) (c1 : w.cell? ⟨bb, 26, none⟩ = some (.slice none 0 0)) : Calls Tryz.prog 117 #[.pointer (some ⟨bb, 0, none⟩)] w fun e w' => e = .returned (.slice none 0 0) /\ w = w' := by
 go_enter Tryz.func117, Tryz.ntmps117; go_wp2_with fail; refine wp_loop_rounds 1 ?_; rw [rounds_succ]; go_wp2_with fail; go_ret; exact ⟨rfl, rfl⟩
theorem markedItems_nil (w : World) : Calls Tryz.prog 135 #[.slice none 0 0] w fun e w' => e = .returned (.bool true) /\ w = w' := by
 go_enter Tryz.func135, Tryz.ntmps135; go_wp2_with fail; refine wp_loop_rounds 1 ?_; rw [rounds_succ]; go_wp2_with fail; go_ret; exact ⟨rfl, rfl⟩
theorem stillLines_nil (bb : Nat) (w : World) (c1 : w.cell? ⟨bb, 28, none⟩ = some (.slice none 0 0)) : Calls Tryz.prog 82 #[.pointer (some ⟨bb, 0, none⟩)] w fun e w' => e = .returned (.bool true) /\ w = w' := by
 go_enter Tryz.func82, Tryz.ntmps82; go_wp2_with fail; refine wp_loop_rounds 1 ?_; rw [rounds_succ]; go_wp2_with fail; go_ret; exact ⟨rfl, rfl⟩
theorem putLines_nil (bb : Nat) (w : World) (c1 : w.cell? ⟨bb, 28, none⟩ = some (.slice none 0 0)) : Calls Tryz.prog 101 #[.pointer (some ⟨bb, 0, none⟩)] w fun e w' => e = .returned (.tuple #[]) /\ w = w' := by
 go_enter Tryz.func101, Tryz.ntmps101; go_wp2_with fail; refine wp_loop_rounds 1 ?_; rw [rounds_succ]; go_wp2_with fail
 go_end0
 exact ⟨rfl, rfl⟩
theorem growLines_nil (bb : Nat) (w : World) (c1 : w.cell? ⟨bb, 28, none⟩ = some (.slice none 0 0)) : Calls Tryz.prog 118 #[.pointer (some ⟨bb, 0, none⟩)] w fun e w' => e = .returned (.slice none 0 0) /\ w = w' := by
 go_enter Tryz.func118, Tryz.ntmps118; go_wp2_with fail; refine wp_loop_rounds 1 ?_; rw [rounds_succ]; go_wp2_with fail; go_ret; exact ⟨rfl, rfl⟩
theorem markedLines_nil (w : World) : Calls Tryz.prog 136 #[.slice none 0 0] w fun e w' => e = .returned (.bool true) /\ w = w' := by
 go_enter Tryz.func136, Tryz.ntmps136; go_wp2_with fail; refine wp_loop_rounds 1 ?_; rw [rounds_succ]; go_wp2_with fail; go_ret; exact ⟨rfl, rfl⟩
theorem stillSeats_nil (bb : Nat) (w : World) (c1 : w.cell? ⟨bb, 30, none⟩ = some (.slice none 0 0)) : Calls Tryz.prog 83 #[.pointer (some ⟨bb, 0, none⟩)] w fun e w' => e = .returned (.bool true) /\ w = w' := by
 go_enter Tryz.func83, Tryz.ntmps83; go_wp2_with fail; refine wp_loop_rounds 1 ?_; rw [rounds_succ]; go_wp2_with fail; go_ret; exact ⟨rfl, rfl⟩
theorem putSeats_nil (bb : Nat) (w : World) (c1 : w.cell? ⟨bb, 30, none⟩ = some (.slice none 0 0)) : Calls Tryz.prog 102 #[.pointer (some ⟨bb, 0, none⟩)] w fun e w' => e = .returned (.tuple #[]) /\ w = w' := by
 go_enter Tryz.func102, Tryz.ntmps102; go_wp2_with fail; refine wp_loop_rounds 1 ?_; rw [rounds_succ]; go_wp2_with fail
 go_end0
 exact ⟨rfl, rfl⟩
theorem growSeats_nil (bb : Nat) (w : World) (c1 : w.cell? ⟨bb, 30, none⟩ = some (.slice none 0 0)) : Calls Tryz.prog 119 #[.pointer (some ⟨bb, 0, none⟩)] w fun e w' => e = .returned (.slice none 0 0) /\ w = w' := by
 go_enter Tryz.func119, Tryz.ntmps119; go_wp2_with fail; refine wp_loop_rounds 1 ?_; rw [rounds_succ]; go_wp2_with fail; go_ret; exact ⟨rfl, rfl⟩
theorem markedSeats_nil (w : World) : Calls Tryz.prog 137 #[.slice none 0 0] w fun e w' => e = .returned (.bool true) /\ w = w' := by
 go_enter Tryz.func137, Tryz.ntmps137; go_wp2_with fail; refine wp_loop_rounds 1 ?_; rw [rounds_succ]; go_wp2_with fail; go_ret; exact ⟨rfl, rfl⟩
theorem stillEvents_nil (bb : Nat) (w : World) (c1 : w.cell? ⟨bb, 32, none⟩ = some (.slice none 0 0)) : Calls Tryz.prog 84 #[.pointer (some ⟨bb, 0, none⟩)] w fun e w' => e = .returned (.bool true) /\ w = w' := by
 go_enter Tryz.func84, Tryz.ntmps84; go_wp2_with fail; refine wp_loop_rounds 1 ?_; rw [rounds_succ]; go_wp2_with fail; go_ret; exact ⟨rfl, rfl⟩
theorem putEvents_nil (bb : Nat) (w : World) (c1 : w.cell? ⟨bb, 32, none⟩ = some (.slice none 0 0)) : Calls Tryz.prog 103 #[.pointer (some ⟨bb, 0, none⟩)] w fun e w' => e = .returned (.tuple #[]) /\ w = w' := by
 go_enter Tryz.func103, Tryz.ntmps103; go_wp2_with fail; refine wp_loop_rounds 1 ?_; rw [rounds_succ]; go_wp2_with fail
 go_end0
 exact ⟨rfl, rfl⟩
theorem growEvents_nil (bb : Nat) (w : World) (c1 : w.cell? ⟨bb, 32, none⟩ = some (.slice none 0 0)) : Calls Tryz.prog 120 #[.pointer (some ⟨bb, 0, none⟩)] w fun e w' => e = .returned (.slice none 0 0) /\ w = w' := by
 go_enter Tryz.func120, Tryz.ntmps120; go_wp2_with fail; refine wp_loop_rounds 1 ?_; rw [rounds_succ]; go_wp2_with fail; go_ret; exact ⟨rfl, rfl⟩
theorem markedEvents_nil (w : World) : Calls Tryz.prog 138 #[.slice none 0 0] w fun e w' => e = .returned (.bool true) /\ w = w' := by
 go_enter Tryz.func138, Tryz.ntmps138; go_wp2_with fail; refine wp_loop_rounds 1 ?_; rw [rounds_succ]; go_wp2_with fail; go_ret; exact ⟨rfl, rfl⟩
theorem stillSteps_nil (bb : Nat) (w : World) (c1 : w.cell? ⟨bb, 34, none⟩ = some (.slice none 0 0)) : Calls Tryz.prog 85 #[.pointer (some ⟨bb, 0, none⟩)] w fun e w' => e = .returned (.bool true) /\ w = w' := by
 go_enter Tryz.func85, Tryz.ntmps85; go_wp2_with fail; refine wp_loop_rounds 1 ?_; rw [rounds_succ]; go_wp2_with fail; go_ret; exact ⟨rfl, rfl⟩
theorem putSteps_nil (bb : Nat) (w : World) (c1 : w.cell? ⟨bb, 34, none⟩ = some (.slice none 0 0)) : Calls Tryz.prog 89 #[.pointer (some ⟨bb, 0, none⟩)] w fun e w' => e = .returned (.tuple #[]) /\ w = w' := by
 go_enter Tryz.func89, Tryz.ntmps89; go_wp2_with fail; refine wp_loop_rounds 1 ?_; rw [rounds_succ]; go_wp2_with fail
 go_end0
 exact ⟨rfl, rfl⟩
theorem growSteps_nil (bb : Nat) (w : World) (c1 : w.cell? ⟨bb, 34, none⟩ = some (.slice none 0 0)) : Calls Tryz.prog 121 #[.pointer (some ⟨bb, 0, none⟩)] w fun e w' => e = .returned (.slice none 0 0) /\ w = w' := by
 go_enter Tryz.func121, Tryz.ntmps121; go_wp2_with fail; refine wp_loop_rounds 1 ?_; rw [rounds_succ]; go_wp2_with fail; go_ret; exact ⟨rfl, rfl⟩
theorem markedSteps_nil (w : World) : Calls Tryz.prog 139 #[.slice none 0 0] w fun e w' => e = .returned (.bool true) /\ w = w' := by
 go_enter Tryz.func139, Tryz.ntmps139; go_wp2_with fail; refine wp_loop_rounds 1 ?_; rw [rounds_succ]; go_wp2_with fail; go_ret; exact ⟨rfl, rfl⟩
end Go.Proofs.YtignponfoheaeaaGreat
