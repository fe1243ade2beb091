import Derived.Test.YtbiaempeegfdkaaGreatQAV
import Derived.Test.YtbiaempeegfdkaaGreatQAT
import Derived.Lib.QuietBelow
set_option linter.unusedVariables false
set_option linter.unusedSimpArgs false
set_option maxHeartbeats 16000000
namespace Go.Proofs.YtbiaempeegfdkaaGreat
open Go.RowKit Go.Tg Go.Maps
structure NoneS (v : Value) (w : World) : Prop where
 out : ∀ W, Below w.heap.size w W -> Calls Tryz.prog 22 #[v] W fun e w' => e = .returned (.bool true) /\ W = w'
theorem NoneS.below {v : Value} {w w' : World} (h : NoneS v w) (hb : Below w.heap.size w w') : NoneS v w' := ⟨fun W hW => h.out W (hb.trans (hW.mono hb.size))⟩
theorem NoneS.at {v : Value} {w : World} (h : NoneS v w) : Calls Tryz.prog 22 #[v] w fun e w' => e = .returned (.bool true) /\ w = w' := h.out w (Below.refl _ _)
theorem noneS_nil (w : World) : NoneS (.pointer none) w := by
 refine ⟨fun W _ => ?_⟩; have q1 : ∀ w, (binOp .eql 25 (.pointer none) (.pointer none)).run Tryz.prog w = .ok (.bool true) w := fun w => by kernel_rfl
 go_enter Tryz.func22, Tryz.ntmps22; go_wp2_with fail; go_ret; exact ⟨rfl, rfl⟩
theorem noneS_zero {w : World} {b : Nat} (hb : b < w.heap.size) (h : w.cell? ⟨b, 12, none⟩ = some (.pointer none)) : NoneS (.pointer (some ⟨b, 0, none⟩)) w := by
 refine ⟨fun W hW => ?_⟩; have h0 : W.cell? ⟨b, 12, none⟩ = some (.pointer none) := (hW.cell (p := ⟨b, 12, none⟩) hb).trans h; have q1 : ∀ w a, (binOp .eql 25 (.pointer (some a)) (.pointer none)).run Tryz.prog w = .ok (.bool false) w := fun w a => by kernel_rfl
 have q2 : ∀ w, (binOp .eql 29 (.pointer none) (.pointer none)).run Tryz.prog w = .ok (.bool true) w := fun w => by kernel_rfl
 clear h hW; go_enter Tryz.func22, Tryz.ntmps22; go_wp2_with fail; go_ret; exact ⟨rfl, rfl⟩
section
variable {v : Value} {w : World}
set_option maxRecDepth 100000 in
theorem sUp_none (hv : v.oneCell' = true) (h : NoneS v w) : Calls Tryz.prog 11 #[v] w fun e w' => e = .returned (.slice none 0 0) /\ Below w.heap.size w w' := by
 have H := H_ h.at; clear h; go_enter Tryz.func11, Tryz.ntmps11
 go_wp2_with (go_at_call 22; refine H.out.mono ?_; rintro e w1 ⟨rfl, rfl⟩)
 go_ret; exact ⟨rfl, Below.refl _ _⟩
set_option maxRecDepth 100000 in
theorem sStop_none (hv : v.oneCell' = true) (h : NoneS v w) : Calls Tryz.prog 12 #[v] w fun e w' => e = .returned (.slice none 0 0) /\ Below w.heap.size w w' := by
 have H := H_ h.at; clear h; go_enter Tryz.func12, Tryz.ntmps12
 go_wp2_with (go_at_call 22; refine H.out.mono ?_; rintro e w1 ⟨rfl, rfl⟩)
 go_ret; exact ⟨rfl, Below.refl _ _⟩
set_option maxRecDepth 100000 in
theorem sTick_none (hv : v.oneCell' = true) (h : NoneS v w) : Calls Tryz.prog 14 #[v] w fun e w' => e = .returned (.slice none 0 0) /\ Below w.heap.size w w' := by
 have H := H_ h.at; clear h; go_enter Tryz.func14, Tryz.ntmps14
 go_wp2_with (go_at_call 22; refine H.out.mono ?_; rintro e w1 ⟨rfl, rfl⟩)
 go_ret; exact ⟨rfl, Below.refl _ _⟩
set_option maxRecDepth 100000 in
theorem sTake_none (hv : v.oneCell' = true) (h : NoneS v w) (s : ByteArray) : Calls Tryz.prog 13 #[v, .string s] w fun e w' => e = .returned (.slice none 0 0) /\ Below w.heap.size w w' := by
 have H := H_ h.at; clear h; go_enter Tryz.func13, Tryz.ntmps13
 go_wp2_with (go_at_call 22; refine H.out.mono ?_; rintro e w1 ⟨rfl, rfl⟩)
 go_ret; exact ⟨rfl, Below.refl _ _⟩
set_option maxRecDepth 100000 in
theorem sState_none (hv : v.oneCell' = true) (h : NoneS v w) : Calls Tryz.prog 15 #[v] w fun e w' => e = .returned (.int .i64 0) /\ Below w.heap.size w w' := by
 have H := H_ h.at; clear h; go_enter Tryz.func15, Tryz.ntmps15
 go_wp2_with (go_at_call 22; refine H.out.mono ?_; rintro e w1 ⟨rfl, rfl⟩)
 go_ret; exact ⟨rfl, Below.refl _ _⟩
set_option maxRecDepth 100000 in
theorem sHeard_none (hv : v.oneCell' = true) (h : NoneS v w) : Calls Tryz.prog 16 #[v] w fun e w' => e = .returned (.slice none 0 0) /\ Below w.heap.size w w' := by
 have H := H_ h.at; clear h; go_enter Tryz.func16, Tryz.ntmps16
 go_wp2_with (go_at_call 22; refine H.out.mono ?_; rintro e w1 ⟨rfl, rfl⟩)
 go_ret; exact ⟨rfl, Below.refl _ _⟩
set_option maxRecDepth 100000 in
theorem sLost_none (hv : v.oneCell' = true) (h : NoneS v w) : Calls Tryz.prog 7 #[v] w fun e w' => e = .returned (.tuple #[]) /\ Below w.heap.size w w' := by
 have H := H_ h.at; clear h; go_enter Tryz.func7, Tryz.ntmps7
 go_wp2_with (go_at_call 22; refine H.out.mono ?_; rintro e w1 ⟨rfl, rfl⟩)
 refine bodyPost_ret (results_none rfl _ _ _) rfl ?_; exact ⟨rfl, Below.refl _ _⟩
set_option maxRecDepth 100000 in
theorem sLink_none (hv : v.oneCell' = true) (h : NoneS v w) : Calls Tryz.prog 9 #[v] w fun e w' => e = .returned (.tuple #[.slice none 0 0, .slice none 0 0]) /\ Below w.heap.size w w' := by
 have H := H_ h.at; clear h; go_enter Tryz.func9, Tryz.ntmps9
 go_wp2_with (go_at_call 22; refine H.out.mono ?_; rintro e w1 ⟨rfl, rfl⟩)
 go_ret2; exact ⟨rfl, Below.refl _ _⟩
set_option maxRecDepth 100000 in
theorem sSend_none (hv : v.oneCell' = true) (h : NoneS v w) (x : Ad) (s : ByteArray) : Calls Tryz.prog 8 #[v, x.v, .string s] w fun e w' => e = .returned (.tuple #[.slice none 0 0, .int .i64 20]) /\ Below w.heap.size w w' := by
 have hb1 : Below w.heap.size w (w.alloc (.cells x.cs 23 (0, 0))) := (Below.refl _ _).alloc (Nat.le_refl _) _; have H := H_ (A_ (h.below hb1).at hb1); unfold Ad.cs at H; unfold Ad.v; clear h hb1; go_enter Tryz.func8, Tryz.ntmps8
 go_wp2_with (go_at_call 22; refine H.out.1.mono ?_; rintro e w1 ⟨rfl, rfl⟩)
 go_ret2; exact ⟨rfl, H.out.2⟩
set_option maxRecDepth 100000 in
theorem sOf_none (hv : v.oneCell' = true) (h : NoneS v w) (k : Int) : Calls Tryz.prog 28 #[v, .int .i64 k] w fun e w' => e = .returned (.agg #[.int .u8 0, .int .u8 0, .int .u8 0, .int .u8 0]) /\ Below w.heap.size w w' := by
 have hb1 : Below w.heap.size w (w.alloc (.cells #[.int .u8 0, .int .u8 0, .int .u8 0, .int .u8 0] 23 (0, 0))) := (Below.refl _ _).alloc (Nat.le_refl _) _; have x0 := at1 w (.cells #[.int .u8 0, .int .u8 0, .int .u8 0, .int .u8 0] 23 (0, 0)); have H := H_ (A_ (h.below hb1).at (A_ hb1 x0)); have y0 := cellOf x0 0 _ rfl; have y1 := cellOf x0 1 _ rfl; have y2 := cellOf x0 2 _ rfl; have y3 := cellOf x0 3 _ rfl; clear h hb1 x0; go_enter Tryz.func28, Tryz.ntmps28
 go_wp2_with (go_at_call 22; refine H.out.1.mono ?_; rintro e w1 ⟨rfl, rfl⟩)
 refine bodyPost_ret (results_cell_row rfl _ _ w.heap.size 23 _ (0, 0) _ rfl (at1 w _) Tryz.underlying23 rfl addr_cells) rfl ?_; exact ⟨rfl, H.out.2.1⟩
set_option maxRecDepth 100000 in
theorem sAddr_none (hv : v.oneCell' = true) (h : NoneS v w) : Calls Tryz.prog 17 #[v] w fun e w' => e = .returned (.agg #[.int .u8 0, .int .u8 0, .int .u8 0, .int .u8 0]) /\ Below w.heap.size w w' := by
 have hb1 : Below w.heap.size w (w.alloc (.cells #[.int .u8 0, .int .u8 0, .int .u8 0, .int .u8 0] 23 (0, 0))) := (Below.refl _ _).alloc (Nat.le_refl _) _; have x0 := at1 w (.cells #[.int .u8 0, .int .u8 0, .int .u8 0, .int .u8 0] 23 (0, 0)); have H := H_ (A_ (sOf_none hv (h.below hb1) 3) (A_ hb1 x0)); clear h hb1 x0; go_enter Tryz.func17, Tryz.ntmps17; go_wp2_with fail; refine H.out.1.mono ?_; rintro e w1 ⟨rfl, b1⟩; have x1 := (b1.block w.heap.size (by rw [alloc1]; omega)).trans H.out.2.2; have y0 := cellOf x1 0 _ rfl; have y1 := cellOf x1 1 _ rfl; have y2 := cellOf x1 2 _ rfl; have y3 := cellOf x1 3 _ rfl; have z := fun o => fzOf x1 o; have HB := H_ (A_ (H.out.2.1.trans (b1.mono H.out.2.1.size)) x1); clear b1 x1; go_wp2_with fail; refine bodyPost_ret (results_cell_row rfl _ _ w.heap.size 23 _ (0, 0) _ rfl (set4' HB.out.2 _ _ _ _) Tryz.underlying23 rfl addr_cells) rfl ?_; exact ⟨rfl, HB.out.1.trans ((keep4' w1 w.heap.size (.int .u8 0) (.int .u8 0) (.int .u8 0) (.int .u8 0)).below HB.out.1.size (fun g hg he => by have he : g = w.heap.size := he; omega))⟩
theorem results_cell_cell {P : Program} {fn : Func} {p q : Tmp} {ty uy : TypeId} (h : fn.results = #[.cell p ty, .cell q uy]) (tmps : Array Value) (w : World) (g k : Nat) (T U : TypeId) (cs ds : Array Value) (fr fs : Nat × Nat) (d f : TypeDesc)
 (hp : tmps.getD p undef = .pointer (some ⟨g, 0, none⟩)) (hg : w.heap[g]? = some (.cells cs T fr)) (hq : tmps.getD q undef = .pointer (some ⟨k, 0, none⟩)) (hk : w.heap[k]? = some (.cells ds U fs))
 (hu : P.underlying ty = some d) (hd : (match d with | .struct _ | .array _ _ => true | _ => false) = true) (hi : (P.info? ty).map (·.size) = some cs.size)
 (hv : P.underlying uy = some f) (hf : (match f with | .struct _ | .array _ _ => true | _ => false) = true) (hj : (P.info? uy).map (·.size) = some ds.size) :
 (results fn tmps).run P w = .ok (.tuple #[.agg cs, .agg ds]) w := by
 have hp' : tmps[p]?.getD undef = .pointer (some ⟨g, 0, none⟩) := by simpa using hp
 have hq' : tmps[q]?.getD undef = .pointer (some ⟨k, 0, none⟩) := by simpa using hq
 simp [results, h, hp', hq', asAddr, run_loadVar_row w g T ty cs fr d hg hu hd hi, run_loadVar_row w k U uy ds fs f hk hv hf hj]
set_option maxRecDepth 100000 in
theorem sDns_none (hv : v.oneCell' = true) (h : NoneS v w) : Calls Tryz.prog 10 #[v] w fun e w' => e = .returned (.tuple #[.agg #[.int .u8 0, .int .u8 0, .int .u8 0, .int .u8 0], .agg #[.int .u8 0, .int .u8 0, .int .u8 0, .int .u8 0]]) /\ Below w.heap.size w w' := by
 obtain ⟨W, hW⟩ : ∃ W, W = (w.alloc (.cells #[.int .u8 0, .int .u8 0, .int .u8 0, .int .u8 0] 23 (0, 0))).alloc (.cells #[.int .u8 0, .int .u8 0, .int .u8 0, .int .u8 0] 23 (0, 0)) := ⟨_, rfl⟩; have hb1 : Below w.heap.size w W := by rw [hW]; exact ((Below.refl _ _).alloc (Nat.le_refl _) _).alloc (by rw [alloc1]; omega) _
 have x0 : W.heap[w.heap.size]? = some (.cells #[.int .u8 0, .int .u8 0, .int .u8 0, .int .u8 0] 23 (0, 0)) := by rw [hW]; exact at20 _ _ _
 have x1 : W.heap[w.heap.size + 1]? = some (.cells #[.int .u8 0, .int .u8 0, .int .u8 0, .int .u8 0] 23 (0, 0)) := by rw [hW]; exact at21 _ _ _
 have hn := h.below hb1; have H := H_ (A_ hb1 (A_ x0 (A_ x1 hn))); clear h hb1 x0 x1 hn; go_enter Tryz.func10, Tryz.ntmps10; go_wp2_with fail; rw [<- hW]; clear hW; refine (sOf_none hv H.out.2.2.2 129).mono ?_; rintro e w1 ⟨rfl, b1⟩; have H1 := H_ (A_ b1 (H.out.2.2.2.below b1)); clear b1; go_wp2_with fail; refine (sOf_none hv H1.out.2 131).mono ?_; rintro e w2 ⟨rfl, b2⟩; have hsz : w.heap.size + 1 < W.heap.size := (Array.getElem?_eq_some_iff.1 H.out.2.2.1).1; have b3 := H1.out.1.trans (b2.mono H1.out.1.size); have x0 := (b3.block w.heap.size (by omega)).trans H.out.2.1; have x1 := (b3.block (w.heap.size + 1) (by omega)).trans H.out.2.2.1; have y0 := cellOf x0 0 _ rfl; have y1 := cellOf x0 1 _ rfl; have y2 := cellOf x0 2 _ rfl; have y3 := cellOf x0 3 _ rfl; have u0 := cellOf x1 0 _ rfl; have u1 := cellOf x1 1 _ rfl; have u2 := cellOf x1 2 _ rfl; have u3 := cellOf x1 3 _ rfl; have z := fun o => fzOf x0 o; have z' := fun o => fzOf x1 o; have HB := H_ (A_ (H.out.1.trans (b3.mono H.out.1.size)) (A_ x0 x1)); clear b2 b3 x0 x1 hsz; go_wp2_with fail; have k1 := keep4' w2 w.heap.size (.int .u8 0) (.int .u8 0) (.int .u8 0) (.int .u8 0); have k2 := keep4' ((((w2.setCell ⟨w.heap.size, 0, none⟩ (.int .u8 0)).setCell ⟨w.heap.size, 1, none⟩ (.int .u8 0)).setCell ⟨w.heap.size, 2, none⟩ (.int .u8 0)).setCell ⟨w.heap.size, 3, none⟩ (.int .u8 0)) (w.heap.size + 1) (.int .u8 0) (.int .u8 0) (.int .u8 0) (.int .u8 0); have e0 := set4' (b := w.heap.size) HB.out.2.1 (.int .u8 0) (.int .u8 0) (.int .u8 0) (.int .u8 0); have e0' := (k2.block w.heap.size (Array.getElem?_eq_some_iff.1 e0).1 (by omega)).trans e0; have e1 := set4' (b := w.heap.size + 1) ((k1.block (w.heap.size + 1) (Array.getElem?_eq_some_iff.1 HB.out.2.2).1 (by omega)).trans HB.out.2.2) (.int .u8 0) (.int .u8 0) (.int .u8 0) (.int .u8 0); refine bodyPost_ret (results_cell_cell rfl _ _ w.heap.size (w.heap.size + 1) 23 23 _ _ (0, 0) (0, 0) _ _ rfl e0' rfl e1 Tryz.underlying23 rfl addr_cells Tryz.underlying23 rfl addr_cells) rfl ?_; exact ⟨rfl, (HB.out.1.trans (k1.below HB.out.1.size (fun g hg he => by have he : g = w.heap.size := he; omega))).trans (k2.below (Nat.le_trans HB.out.1.size k1.size) (fun g hg he => by have he : g = w.heap.size + 1 := he; omega))⟩
end
def subZ : Array Value := #[.string ⟨#[]⟩, .string ⟨#[]⟩, .int .i64 0, .int .i64 0, .int .i64 0, .int .i64 0, .int .i64 0, .int .i64 0, .int .i64 0, .int .i64 0, .bool false, .pointer none, .pointer none, .pointer none, .pointer none, .pointer none, .int .i64 0, .slice none 0 0, .slice none 0 0, .slice none 0 0, .int .i64 0, .int .i64 0]
def adZ : Array Value := #[.int .u8 0, .int .u8 0, .int .u8 0, .int .u8 0]
structure NZ (w W : World) (a : Ad) : Prop where
 bl : Below w.heap.size w W
 ca : W.heap[w.heap.size]? = some (.cells a.cs 23 (0, 0))
 cz : W.heap[w.heap.size + 1]? = some (.cells subZ 38 (0, 0))
theorem NZ.lt {w W : World} {a : Ad} (h : NZ w W a) : w.heap.size + 1 < W.heap.size := (Array.getElem?_eq_some_iff.1 h.cz).1
theorem NZ.go {w W W' : World} {a : Ad} (h : NZ w W a) (b : Below W.heap.size W W') : NZ w W' a :=
 ⟨h.bl.trans (b.mono h.bl.size), (b.block _ (by have := h.lt; omega)).trans h.ca, (b.block _ h.lt).trans h.cz⟩
theorem NZ.none {w W : World} {a : Ad} (h : NZ w W a) : NoneS (.pointer (some ⟨w.heap.size + 1, 0, none⟩)) W := noneS_zero h.lt (cellOf h.cz 12 _ rfl)
set_option maxRecDepth 100000 in
theorem subNone_any (s : ByteArray) (a : Ad) (w : World) (hs : s.size <= maxLen) : Calls Tryz.prog 3 #[.string s, a.v] w fun e w' => e = .returned (.bool true) /\ Below w.heap.size w w' := by
 have hb1 : Below w.heap.size w (w.alloc (.cells a.cs 23 (0, 0))) := (Below.refl _ _).alloc (Nat.le_refl _) _; have x0 := at1 w (.cells a.cs 23 (0, 0)); have hz1 : NZ w ((w.alloc (.cells a.cs 23 (0, 0))).alloc (.cells subZ 38 (0, 0))) a := ⟨hb1.alloc hb1.size _, at20 w _ _, at21 w _ _⟩; have HA := H_ (fun w => alive25_any w); have HZ := H_ (A_ hb1 hz1); unfold Ad.cs subZ at HZ; unfold maxLen at hs; unfold Ad.v; clear hb1 x0 hz1
 by_cases hq : 2000 < s.size
 . have dd : decide ((2000 : Int) < (s.size : Int)) = true := by simp; omega
   clear hq; go_enter Tryz.func3, Tryz.ntmps3; go_wp2_with fail; refine (HA.out _).mono ?_; rintro e w2 ⟨rfl, b2⟩; have HB := H_ b2; clear b2; go_wp2_with fail; go_ret; exact ⟨rfl, HZ.out.1.trans (HB.out.mono HZ.out.1.size)⟩
 have dd : decide ((2000 : Int) < (s.size : Int)) = false := by simp; omega
 clear hq; go_enter Tryz.func3, Tryz.ntmps3; go_wp2_with fail; refine (sLost_none rfl (noneS_nil _)).mono ?_; rintro e w1 ⟨rfl, b1⟩; have H1 := H_ (HZ.out.2.go b1); clear b1; go_wp2_with fail; refine (sLost_none rfl H1.out.none).mono ?_; rintro e w2 ⟨rfl, b2⟩; have h2 := H1.out.go b2; have p0 := cellOf h2.ca 0 (.int .u8 (a.a.toNat : Int)) rfl; have p1 := cellOf h2.ca 1 (.int .u8 (a.b.toNat : Int)) rfl; have p2 := cellOf h2.ca 2 (.int .u8 (a.c.toNat : Int)) rfl; have p3 := cellOf h2.ca 3 (.int .u8 (a.d.toNat : Int)) rfl; have H2 := H_ h2; have HS := H_ (sSend_none (v := .pointer none) rfl (noneS_nil w2) a s); unfold Ad.v at HS; clear b2 h2 H1 HZ dd; go_wp2_with fail; refine HS.out.mono ?_; rintro e w3 ⟨rfl, b3⟩; have h3 := H2.out.go b3; have H3 := H_ h3; clear p0 p1 p2 p3; have p0 := cellOf h3.ca 0 (.int .u8 (a.a.toNat : Int)) rfl; have p1 := cellOf h3.ca 1 (.int .u8 (a.b.toNat : Int)) rfl; have p2 := cellOf h3.ca 2 (.int .u8 (a.c.toNat : Int)) rfl; have p3 := cellOf h3.ca 3 (.int .u8 (a.d.toNat : Int)) rfl; have HS := H_ (sSend_none rfl h3.none a s); unfold Ad.v at HS; clear b3 h3 H2; go_wp2_with fail; refine HS.out.mono ?_; rintro e w4 ⟨rfl, b4⟩; have H4 := H_ (H3.out.go b4); clear b4 p0 p1 p2 p3 H3 HS; go_wp2_with fail; refine (sLink_none rfl (noneS_nil _)).mono ?_; rintro e w5 ⟨rfl, b5⟩; have H5 := H_ (H4.out.go b5); clear b5 H4; go_wp2_with fail; refine (sDns_none rfl H5.out.none).mono ?_; rintro e w6 ⟨rfl, b6⟩; have h6 := H5.out.go b6; have H6 := H_ h6; clear b6 H5 h6; obtain ⟨W, hW⟩ : ∃ W, W = ((w6.alloc (.cells adZ 23 (0, 0))).alloc (.cells adZ 23 (0, 0))).alloc (.cells adZ 23 (0, 0)) := ⟨_, rfl⟩; have b7 : Below w6.heap.size w6 W := by rw [hW]; exact (((Below.refl _ _).alloc (Nat.le_refl _) _).alloc (by rw [alloc1]; omega) _).alloc (by rw [alloc1, alloc1]; omega) _
 have z0 : W.heap[w6.heap.size]? = some (.cells adZ 23 (0, 0)) := by rw [hW, Below.heap_alloc _ _ _ (by rw [alloc1, alloc1]; omega)]; exact at20 _ _ _
 have z1 : W.heap[w6.heap.size + 1]? = some (.cells adZ 23 (0, 0)) := by rw [hW, Below.heap_alloc _ _ _ (by rw [alloc1, alloc1]; omega)]; exact at21 _ _ _
 have z2 : W.heap[w6.heap.size + 1 + 1]? = some (.cells adZ 23 (0, 0)) := by rw [hW, <- alloc1 w6 (.cells adZ 23 (0, 0)), <- alloc1 (w6.alloc (.cells adZ 23 (0, 0))) (.cells adZ 23 (0, 0))]; exact at1 _ _
 have h7 := H6.out.go b7; have c00 := cell_regrown (cellOf z0 0 (.int .u8 0) rfl); have c01 := cell_regrown (cellOf z0 1 (.int .u8 0) rfl); have c02 := cell_regrown (cellOf z0 2 (.int .u8 0) rfl); have c03 := cell_regrown (cellOf z0 3 (.int .u8 0) rfl); have c10 := cell_regrown (cellOf z1 0 (.int .u8 0) rfl); have c11 := cell_regrown (cellOf z1 1 (.int .u8 0) rfl); have c12 := cell_regrown (cellOf z1 2 (.int .u8 0) rfl); have c13 := cell_regrown (cellOf z1 3 (.int .u8 0) rfl); have c20 := cell_regrown (cellOf z2 0 (.int .u8 0) rfl); have c21 := cell_regrown (cellOf z2 1 (.int .u8 0) rfl); have c22 := cell_regrown (cellOf z2 2 (.int .u8 0) rfl); have c23 := cell_regrown (cellOf z2 3 (.int .u8 0) rfl); have HN0 := H_ (fun (d : Nat) (os : Array Obj) => noneS_nil (Go.Sort.grow (redrawn W d) os)); have HNZ := H_ (fun (d : Nat) (os : Array Obj) => h7.none.below (below_regrown W d os)); have H7 := H_ h7.bl; have e1 := adEql Ad.z Ad.z; rw [(adE_iff Ad.z Ad.z).2 rfl] at e1; have e1 : ∀ w, (binOp .eql 23 (.agg #[.int .u8 0, .int .u8 0, .int .u8 0, .int .u8 0]) (.agg #[.int .u8 0, .int .u8 0, .int .u8 0, .int .u8 0])).run Tryz.prog w = .ok (.bool true) w := e1; clear b7 z0 z1 z2 h7 H6; unfold adZ at hW
 go_upto_region 12 with (fail)
 rw [<- hW]; clear hW; simp only [List.append_eq, List.cons_append, List.nil_append]; refine wp_region_quiet_below (by kernel_rfl) (by kernel_rfl) ?_
 repeat (quiet_step (first | (go_at_call 6; exact Calls.regrown_of (HA.out _)) | (go_at_call 11; exact Calls.regrown_of (sUp_none (by rfl) (by first | exact HN0.out _ _ | exact HNZ.out _ _))) | (go_at_call 12; exact Calls.regrown_of (sStop_none (by rfl) (by first | exact HN0.out _ _ | exact HNZ.out _ _))) | (go_at_call 13; exact Calls.regrown_of (sTake_none (by rfl) (by first | exact HN0.out _ _ | exact HNZ.out _ _) s)) | (go_at_call 14; exact Calls.regrown_of (sTick_none (by rfl) (by first | exact HN0.out _ _ | exact HNZ.out _ _))) | (go_at_call 15; exact Calls.regrown_of (sState_none (by rfl) (by first | exact HN0.out _ _ | exact HNZ.out _ _))) | (go_at_call 16; exact Calls.regrown_of (sHeard_none (by rfl) (by first | exact HN0.out _ _ | exact HNZ.out _ _))) | (go_at_call 17; exact Calls.regrown_of (sAddr_none (by rfl) (by first | exact HN0.out _ _ | exact HNZ.out _ _)))))
 refine wpQuiet_nil ?_; rintro _ ⟨⟨nq, osq⟩, rfl⟩; have HB5 := H_ (H7.out.trans ((below_regrown W nq osq).mono H7.out.size)); go_wp2_with fail; go_ret; exact ⟨rfl, HB5.out⟩
end Go.Proofs.YtbiaempeegfdkaaGreat
