import Derived.Test.YtgoahafndefhgaaGreatQAO
import Derived.Test.YtgoahafndefhgaaGreatQAR
import Derived.OpenShut
set_option linter.unusedVariables false
set_option linter.unusedSimpArgs false
set_option maxHeartbeats 16000000
namespace Go.Proofs.YtgoahafndefhgaaGreat
open Go.RowKit Go.Tg Go.Maps
structure PoolAt (w : World) (pb ph pw : Nat) (x : Ad) (n : Int) : Prop where
 blk : w.heap[pb]? = some (.cells #[.int .u8 (x.a.toNat : Int), .int .u8 (x.b.toNat : Int), .int .u8 (x.c.toNat : Int), .int .u8 (x.d.toNat : Int), .int .i64 n, .map (some ph), .map (some pw)] 211 (0, 0))
 h : w.heap[ph]? = some (.map #[] 0)
 v : w.heap[pw]? = some (.map #[] 0)
 pos : 1 <= n /\ n <= 256
theorem PoolAt.same {w w' : World} {pb ph pw : Nat} {x : Ad} {n : Int} (p : PoolAt w pb ph pw x n) (h1 : w'.heap[pb]? = w.heap[pb]?) (h2 : w'.heap[ph]? = w.heap[ph]?) (h3 : w'.heap[pw]? = w.heap[pw]?) : PoolAt w' pb ph pw x n := ⟨h1.trans p.blk, h2.trans p.h, h3.trans p.v, p.pos⟩
def numA (x : Ad) : Int := bits BinOp.or IntKind.u32 (bits BinOp.or IntKind.u32 (bits BinOp.or IntKind.u32 ((x.a.toNat : Int) % 4294967296 * 16777216 % 4294967296) ((x.b.toNat : Int) % 4294967296 * 65536 % 4294967296)) ((x.c.toNat : Int) % 4294967296 * 256 % 4294967296)) ((x.d.toNat : Int) % 4294967296)
theorem numA_bd (x : Ad) : 0 <= numA x /\ numA x <= 4294967295 := by
 have h := wf_bits BinOp.or IntKind.u32 (bits BinOp.or IntKind.u32 (bits BinOp.or IntKind.u32 ((x.a.toNat : Int) % 4294967296 * 16777216 % 4294967296) ((x.b.toNat : Int) % 4294967296 * 65536 % 4294967296)) ((x.c.toNat : Int) % 4294967296 * 256 % 4294967296)) ((x.d.toNat : Int) % 4294967296); unfold numA; generalize bits BinOp.or IntKind.u32 _ _ = n at *; simp only [Lit.wf, IntKind.min, IntKind.max, IntKind.signed, IntKind.bits, Bool.and_eq_true, decide_eq_true_eq] at h; simp at h
 omega
def PoolOk (x : Ad) (n : Int) : Prop := (1 <= n /\ n <= 256) /\ numA x + n <= 4294967296
set_option maxRecDepth 100000 in
theorem poolNum_any (x : Ad) (w : World) : Calls Tryz.prog 200 #[x.v] w fun e w' => e = .returned (.int .u32 (numA x)) /\ Below w.heap.size w w' := by
 have hb1 : Below w.heap.size w (w.alloc (.cells x.cs 27 (0, 0))) := (Below.refl _ _).alloc (Nat.le_refl _) _; have HB := H_ hb1; unfold Ad.cs at HB; unfold Ad.v; clear hb1; go_enter Tryz.func200, Tryz.ntmps200; go_wp2_with fail; go_ret; exact ⟨rfl, HB.out⟩
set_option maxRecDepth 100000 in
theorem poolNew_any (x : Ad) (n : Int) (w : World) : Calls Tryz.prog 120 #[x.v, .int .i64 n] w fun e w' => ∃ p k, e = .returned (.tuple #[.pointer p, .int .i64 k]) /\ Below w.heap.size w w' /\ (PoolOk x n -> k = 0) /\
 (k = 0 -> ∃ pb ph pw, p = some ⟨pb, 0, none⟩ /\ PoolAt w' pb ph pw x n /\ w.heap.size <= pb /\ w.heap.size <= ph /\ w.heap.size <= pw) := by
 have hmm := @run_makeMap Tryz.prog; have hb0 : Below w.heap.size w (w.alloc (.cells x.cs 27 (0, 0))) := (Below.refl _ _).alloc (Nat.le_refl _) _; have x0 := at1 w (.cells x.cs 27 (0, 0)); have HB := H_ (A_ hb0 (A_ x0 (alloc1 w (.cells x.cs 27 (0, 0))))); have hnb := numA_bd x
 by_cases h1 : n < 1
 . have d1 : decide (n < 1) = true := by simpa using h1
   have HN := H_ (show ¬ PoolOk x n from fun h => by have := h.1.1; omega); unfold Ad.cs at HB; unfold Ad.v; clear h1 hb0 x0 hnb; go_enter Tryz.func120, Tryz.ntmps120; go_wp2_with fail; go_ret2; exact ⟨_, _, rfl, HB.out.1, fun h => absurd h HN.out, fun h => absurd h (by decide)⟩
 have d1 : decide (n < 1) = false := by simpa using h1
 by_cases h2 : 256 < n
 . have d2 : decide (256 < n) = true := by simpa using h2
   have HN := H_ (show ¬ PoolOk x n from fun h => by have := h.1.2; omega); unfold Ad.cs at HB; unfold Ad.v; clear h1 h2 hb0 x0 hnb; go_enter Tryz.func120, Tryz.ntmps120; go_wp2_with fail; go_ret2; exact ⟨_, _, rfl, HB.out.1, fun h => absurd h HN.out, fun h => absurd h (by decide)⟩
 have d2 : decide (256 < n) = false := by simpa using h2
 have HNB := H_ (show 1 <= n /\ n <= 256 by omega); have hw : wrap64 (numA x + n) = numA x + n := by unfold wrap64; omega
 have hw0 : wrap64 (numA x) = numA x := by unfold wrap64; omega
 have HP := H_ (fun w => poolNum_any x w); have y0 := cellOf x0 0 (.int .u8 (x.a.toNat : Int)) rfl; have y1 := cellOf x0 1 (.int .u8 (x.b.toNat : Int)) rfl; have y2 := cellOf x0 2 (.int .u8 (x.c.toNat : Int)) rfl; have y3 := cellOf x0 3 (.int .u8 (x.d.toNat : Int)) rfl
 by_cases h3 : 4294967296 < numA x + n
 . have d3 : decide (4294967296 < numA x + n) = true := by simpa using h3
   have HN := H_ (show ¬ PoolOk x n from fun h => by have := h.2; omega); unfold Ad.cs at HB y0 y1 y2 y3; unfold Ad.v at HP ⊢; generalize numA x = N at *; clear h1 h2 h3 hb0 x0 hnb; go_enter Tryz.func120, Tryz.ntmps120; go_wp2_with fail; refine (HP.out _).mono ?_; rintro e w1 ⟨rfl, b1⟩; have H1 := H_ (HB.out.1.trans (b1.mono HB.out.1.size)); clear b1; go_wp2_with fail; go_ret2; exact ⟨_, _, rfl, H1.out, fun h => absurd h HN.out, fun h => absurd h (by decide)⟩
 . have d3 : decide (4294967296 < numA x + n) = false := by simpa using h3
   unfold Ad.cs at HB y0 y1 y2 y3; unfold Ad.v at HP ⊢; generalize numA x = N at *; clear h1 h2 h3 hb0 x0 hnb; go_enter Tryz.func120, Tryz.ntmps120; go_wp2_with fail; refine (HP.out _).mono ?_; rintro e w1 ⟨rfl, b1⟩; have z := (b1.block w.heap.size (by rw [HB.out.2.2]; omega)).trans HB.out.2.1; have H1 := H_ (HB.out.1.trans (b1.mono HB.out.1.size)); clear b1 y0 y1 y2 y3; have y0 := cellOf z 0 (.int .u8 (x.a.toNat : Int)) rfl; have y1 := cellOf z 1 (.int .u8 (x.b.toNat : Int)) rfl; have y2 := cellOf z 2 (.int .u8 (x.c.toNat : Int)) rfl; have y3 := cellOf z 3 (.int .u8 (x.d.toNat : Int)) rfl; clear z; go_wp2_with fail; go_ret2; have e3 := alloc2 w1 (.map #[] 0) (.map #[] 0); have hs := H1.out.size; refine ⟨_, _, rfl, ((H1.out.alloc hs _).alloc (by rw [alloc1]; omega) _).alloc (by rw [alloc1, alloc1]; omega) _, fun _ => rfl, fun _ => ⟨w1.heap.size + 1 + 1, w1.heap.size, w1.heap.size + 1, rfl, ⟨?_, ?_, ?_, HNB.out⟩, by omega, by omega, by omega⟩⟩
   . rw [<- alloc1 w1 (.map #[] 0), <- alloc1 (w1.alloc (.map #[] 0)) (.map #[] 0)]; exact at1 _ _
   . rw [Below.heap_alloc _ _ _ (by rw [alloc1, alloc1]; omega)]; exact at20 _ _ _
   . rw [Below.heap_alloc _ _ _ (by rw [alloc1, alloc1]; omega)]; exact at21 _ _ _
set_option maxRecDepth 100000 in
theorem storeNew_any (limit calm : Int) (w : World) : Calls Tryz.prog 122 #[.int .i64 limit, .int .i64 calm] w fun e w' => (∃ x, e = .returned (.tuple #[.pointer none, .int .i64 x]) /\ x ≠ 0 /\ ¬ (0 <= limit /\ limit <= 100 /\ 1 <= calm /\ calm <= 1000) /\ w = w') \/
 (e = .returned (.tuple #[.pointer (some ⟨w.heap.size + 1, 0, none⟩), .int .i64 0]) /\ w'.heap[w.heap.size + 1]? = some (.cells #[.int .i64 limit, .int .i64 calm, .map (some w.heap.size)] 219 (0, 0)) /\ w'.heap[w.heap.size]? = some (.map #[] 0) /\ Below w.heap.size w w') := by
 have hmm := @run_makeMap Tryz.prog
 have bad : ∀ (v : Value), v = .pointer none -> ¬ (0 <= limit /\ limit <= 100 /\ 1 <= calm /\ calm <= 1000) -> (∃ x, (Ending.returned (.tuple #[v, .int .i64 1])) = .returned (.tuple #[.pointer none, .int .i64 x]) /\ x ≠ 0 /\ ¬ (0 <= limit /\ limit <= 100 /\ 1 <= calm /\ calm <= 1000)) := by
  rintro v rfl h; exact ⟨1, rfl, by decide, h⟩
 have HBAD := H_ bad; clear bad
 by_cases h1 : limit < 0
 . have d1 : decide (limit < 0) = true := by simpa using h1
   have HN := H_ (show ¬ (0 <= limit /\ limit <= 100 /\ 1 <= calm /\ calm <= 1000) by omega); clear h1; go_enter Tryz.func122, Tryz.ntmps122; go_wp2_with fail; go_ret2; obtain ⟨x, g1, g2, g3⟩ := HBAD.out _ rfl HN.out; exact .inl ⟨x, g1, g2, g3, rfl⟩
 have d1 : decide (limit < 0) = false := by simpa using h1
 by_cases h2 : 100 < limit
 . have d2 : decide (100 < limit) = true := by simpa using h2
   have HN := H_ (show ¬ (0 <= limit /\ limit <= 100 /\ 1 <= calm /\ calm <= 1000) by omega); clear h1 h2; go_enter Tryz.func122, Tryz.ntmps122; go_wp2_with fail; go_ret2; obtain ⟨x, g1, g2, g3⟩ := HBAD.out _ rfl HN.out; exact .inl ⟨x, g1, g2, g3, rfl⟩
 have d2 : decide (100 < limit) = false := by simpa using h2
 by_cases h3 : calm < 1
 . have d3 : decide (calm < 1) = true := by simpa using h3
   have HN := H_ (show ¬ (0 <= limit /\ limit <= 100 /\ 1 <= calm /\ calm <= 1000) by omega); clear h1 h2 h3; go_enter Tryz.func122, Tryz.ntmps122; go_wp2_with fail; go_ret2; obtain ⟨x, g1, g2, g3⟩ := HBAD.out _ rfl HN.out; exact .inl ⟨x, g1, g2, g3, rfl⟩
 have d3 : decide (calm < 1) = false := by simpa using h3
 by_cases h4 : 1000 < calm
 . have d4 : decide (1000 < calm) = true := by simpa using h4
   have HN := H_ (show ¬ (0 <= limit /\ limit <= 100 /\ 1 <= calm /\ calm <= 1000) by omega); clear h1 h2 h3 h4; go_enter Tryz.func122, Tryz.ntmps122; go_wp2_with fail; go_ret2; obtain ⟨x, g1, g2, g3⟩ := HBAD.out _ rfl HN.out; exact .inl ⟨x, g1, g2, g3, rfl⟩
 have d4 : decide (1000 < calm) = false := by simpa using h4
 clear h1 h2 h3 h4; go_enter Tryz.func122, Tryz.ntmps122; go_wp2_with fail; go_ret2; refine .inr ⟨rfl, at21 w _ _, at20 w _ _, ((Below.refl _ _).alloc (Nat.le_refl _) _).alloc (by rw [alloc1]; omega) _⟩
end Go.Proofs.YtgoahafndefhgaaGreat
