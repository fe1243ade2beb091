import Derived.Test.YtijepfjfmpmfnaaV53
import Derived.Test.YtijepfjfmpmfnaaV38
import Derived.Test.YtijepfjfmpmfnaaV55
/- IpcpAddress. -/
namespace Go.Proofs.Ytijepfjfmpmfnaa
open Go.RowKit Go.Tg Go.Maps

set_option maxHeartbeats 8000000 in
set_option maxRecDepth 100000 in
theorem ipcpAddress_any (lv : Value) (l : List Opt) (k : Int) (a b : Ad) (w : World) (hl : Opts w (fun _ => True) lv l) (hls : ∀ o ∈ l, o.v.size ≤ maxLen) :
    Calls Try.prog 4 #[lv, .int .i64 k, a.v, b.v] w fun e w' => e = .returned (.bool true) ∧ Below w.heap.size w w' := by
  obtain ⟨W, hW, hs, x0, x1, hb⟩ : ∃ W, W = (w.alloc (.cells a.cs 49 (0, 0))).alloc (.cells b.cs 49 (0, 0)) ∧ W.heap.size = w.heap.size + 1 + 1 ∧ W.heap[w.heap.size]? = some (.cells a.cs 49 (0, 0)) ∧ W.heap[w.heap.size + 1]? = some (.cells b.cs 49 (0, 0)) ∧ Below w.heap.size w W :=
    ⟨_, rfl, alloc2 _ _ _, at20 _ _ _, at21 _ _ _, ((Below.refl _ _).alloc (Nat.le_refl _) _).alloc (by rw [alloc1]; omega) _⟩
  have hlW := hl.below hb
  obtain ⟨sa, c, rfl, hc, hm⟩ := hl.form
  have HL := Lib.hid (light_any l _ _ W hlW hls)
  have HA := Lib.hid (fun w => alive17_any w)
  have G1 := Lib.hid (fun w => good_any a b w)
  have G2 := Lib.hid (fun w => rgood_any a b w)
  have HB := Lib.hid (And.intro hb (And.intro hlW (And.intro hs (And.intro x0 x1))))
  unfold Ad.v at G1 G2
  unfold Ad.v
  unfold Ad.cs at hW
  generalize goodS a b = g at G1 G2
  clear hl hls hlW hb hs x0 x1
  go_enter Try.func4, Try.ntmps4
  go_wp2_with (rw [← hW]; clear hW; refine HL.out.mono ?_; rintro e w1 ⟨⟨y, rfl, hy⟩, rfl⟩; have HY := Lib.hid hy; clear hy; cases y)
  · go_wp2_with (go_at_call 21; refine (HA.out _).mono ?_; rintro e w2 ⟨rfl, b2⟩; have H2 := Lib.hid b2; clear b2)
    go_ret
    exact ⟨rfl, HB.out.1.trans (H2.out.mono HB.out.1.size)⟩
  · obtain ⟨hl1, hl2⟩ := HY.out (by first | exact trivial | rfl)
    have F1 := Lib.hid (adr_any l _ _ k W HB.out.2.1 (by omega) (fun o ho => by have := hl2 o ho; omega))
    have F2 := Lib.hid (fun W' (h : Below W.heap.size W W') => radr_any l _ _ k W' (Opts.below HB.out.2.1 h) (by omega) (fun o ho => by have := hl2 o ho; omega))
    unfold Ad.v at F1 F2
    generalize adrS l k = A at F1 F2
    obtain ⟨x, y⟩ := A
    have e1 := adEql x x
    rw [(adE_iff x x).2 rfl] at e1
    unfold Ad.v at e1
    clear hl1 hl2
    go_wp2_with fail
    refine F1.out.mono ?_
    rintro e w1 ⟨rfl, b1⟩
    have b2 := b1.alloc b1.size (.cells x.cs 49 (0, 0))
    have x2 := at1 w1 (.cells x.cs 49 (0, 0))
    have H2 := Lib.hid (And.intro b2 (And.intro x2 (And.intro (F2.out _ b2) (alloc1 w1 (.cells x.cs 49 (0, 0))))))
    unfold Ad.cs at H2
    clear b1 b2 x2
    go_wp2_with fail
    refine H2.out.2.2.1.mono ?_
    rintro e w3 ⟨rfl, b3⟩
    obtain ⟨W4, hW4⟩ : ∃ W4, W4 = w3.alloc (.cells #[.int .u8 (x.a.toNat : Int), .int .u8 (x.b.toNat : Int), .int .u8 (x.c.toNat : Int), .int .u8 (x.d.toNat : Int)] 49 (0, 0)) := ⟨_, rfl⟩
    have s3 := b3.size
    have s2 := H2.out.2.2.2
    unfold Ad.cs at s2
    have b4 : Below W.heap.size W W4 := by rw [hW4]; exact (H2.out.1.trans (b3.mono H2.out.1.size)).alloc (by have := H2.out.1.size; omega) _
    have x4 : W4.heap[w3.heap.size]? = some (.cells x.cs 49 (0, 0)) := by rw [hW4]; exact at1 _ _
    have x3 : W4.heap[w1.heap.size]? = some (.cells x.cs 49 (0, 0)) := by rw [hW4, Below.heap_alloc _ _ _ (by omega)]; exact (b3.block _ (by omega)).trans H2.out.2.1
    have x0 := (b4.block _ (by have := HB.out.2.2.1; omega)).trans HB.out.2.2.2.1
    have x1 := (b4.block _ (by have := HB.out.2.2.1; omega)).trans HB.out.2.2.2.2
    have p0 := cellOf x4 0 (.int .u8 (x.a.toNat : Int)) rfl
    have p1 := cellOf x4 1 (.int .u8 (x.b.toNat : Int)) rfl
    have p2 := cellOf x4 2 (.int .u8 (x.c.toNat : Int)) rfl
    have p3 := cellOf x4 3 (.int .u8 (x.d.toNat : Int)) rfl
    have q0 := cellOf x3 0 (.int .u8 (x.a.toNat : Int)) rfl
    have q1 := cellOf x3 1 (.int .u8 (x.b.toNat : Int)) rfl
    have q2 := cellOf x3 2 (.int .u8 (x.c.toNat : Int)) rfl
    have q3 := cellOf x3 3 (.int .u8 (x.d.toNat : Int)) rfl
    have r0 := cellOf x0 0 (.int .u8 (a.a.toNat : Int)) rfl
    have r1 := cellOf x0 1 (.int .u8 (a.b.toNat : Int)) rfl
    have r2 := cellOf x0 2 (.int .u8 (a.c.toNat : Int)) rfl
    have r3 := cellOf x0 3 (.int .u8 (a.d.toNat : Int)) rfl
    have t0 := cellOf x1 0 (.int .u8 (b.a.toNat : Int)) rfl
    have t1 := cellOf x1 1 (.int .u8 (b.b.toNat : Int)) rfl
    have t2 := cellOf x1 2 (.int .u8 (b.c.toNat : Int)) rfl
    have t3 := cellOf x1 3 (.int .u8 (b.d.toNat : Int)) rfl
    have p0' := cell_regrown p0
    have p1' := cell_regrown p1
    have p2' := cell_regrown p2
    have p3' := cell_regrown p3
    have q0' := cell_regrown q0
    have q1' := cell_regrown q1
    have q2' := cell_regrown q2
    have q3' := cell_regrown q3
    have r0' := cell_regrown r0
    have r1' := cell_regrown r1
    have r2' := cell_regrown r2
    have r3' := cell_regrown r3
    have t0' := cell_regrown t0
    have t1' := cell_regrown t1
    have t2' := cell_regrown t2
    have t3' := cell_regrown t3
    have HB4 := Lib.hid (HB.out.1.trans (b4.mono HB.out.1.size))
    clear b3 b4 s3 s2 x0 x1 x3 x4
    cases y <;> cases g
    all_goals
      go_wp2_with fail
      rw [← hW4]
      clear hW4
      refine wp_region_quiet_below (by kernel_rfl) (by kernel_rfl) ?_
      repeat (quiet_step (first | (go_at_call 21; exact Calls.regrown_of (HA.out _)) | (go_at_call 24; exact Calls.regrown_of (G1.out _)) | (go_at_call 25; exact Calls.regrown_of (G2.out _))))
      refine wpQuiet_nil ?_
      rintro _ ⟨⟨nq, osq⟩, rfl⟩
      have HB5 := Lib.hid (HB4.out.trans ((below_regrown _ nq osq).mono HB4.out.size))
      go_wp2_with fail
      go_ret
      exact ⟨rfl, HB5.out⟩
end Go.Proofs.Ytijepfjfmpmfnaa
