import Derived.Test.YthhdackaopaojaaGreatK25
import Derived.Test.YthhdackaopaojaaGreatK23
/- Links that are not made. -/
namespace Go.Proofs.YthhdackaopaojaaGreat
open Go.RowKit Go.Tg Go.Maps

/-! ### New -/
def lcfgBad (c : LCfg) : Prop := (c.mru < 64 ∨ 1492 < c.mru) ∨ (c.auth ≠ 0 ∧ c.auth ≠ 49187 ∧ c.auth ≠ 49699) ∨ (c.magic < 0 ∨ 4294967295 < c.magic) ∨ (c.echo < 0 ∨ 100 < c.echo)
def LFail (w w' : World) (e : Ending) : Prop := e = .returned (.tuple #[.pointer none, .int .i64 1]) ∧ Below w.heap.size w w'

set_option maxHeartbeats 8000000 in
set_option maxRecDepth 100000 in
theorem lnew_bad1 (c : LCfg) (ha : I64 c.auth) (hb : lcfgBad c) (v : Value) (w : World) :
    Calls Tryz.prog 12 #[cfgV c, v] w fun e w' => LFail w w' e := by
  have L1 := lin_any c.mru 64 1492
  have L2 := lin_any c.magic 0 4294967295
  have L3 := lin_any c.echo 0 100
  have HV := Lib.hid (fun w => lvalue_any c.auth w ha)
  have hb0 := (Below.refl w.heap.size w).alloc (Nat.le_refl _) (.cells #[.int .i64 c.mru, .int .i64 c.auth, .int .i64 c.magic, .int .i64 c.echo, .int .i64 c.cf, .int .i64 c.tm, .int .i64 c.fl, .int .i64 c.wt] 24 (0, 0))
  have hz := at1 w (.cells #[.int .i64 c.mru, .int .i64 c.auth, .int .i64 c.magic, .int .i64 c.echo, .int .i64 c.cf, .int .i64 c.tm, .int .i64 c.fl, .int .i64 c.wt] 24 (0, 0))
  have hs := alloc1 w (.cells #[.int .i64 c.mru, .int .i64 c.auth, .int .i64 c.magic, .int .i64 c.echo, .int .i64 c.cf, .int .i64 c.tm, .int .i64 c.fl, .int .i64 c.wt] 24 (0, 0))
  have HB0 := Lib.hid (And.intro hb0 (And.intro hz hs))
  have HBD := Lib.hid hb
  have hva : c.auth = 49187 ∨ c.auth = 49699 → (lvalS c.auth).toList.isEmpty = false := by
    rintro (h | h)
    · rw [h, isE]; decide
    · rw [h, isE]; decide
  have hvb : c.auth ≠ 49187 → c.auth ≠ 49699 → (lvalS c.auth).toList.isEmpty = true := by
    intro h1 h2
    unfold lvalS
    rw [if_neg h1, if_neg h2, isE]; decide
  unfold cfgV
  clear hb hb0 hz hs
  by_cases m1 : 64 ≤ c.mru ∧ c.mru ≤ 1492
  · rw [show (decide (64 ≤ c.mru) && decide (c.mru ≤ 1492)) = true from by simp [m1.1, m1.2]] at L1
    by_cases a0 : c.auth = 0
    · have ea : (c.auth != 0) = false := by simp [a0]
      by_cases g1 : 0 ≤ c.magic ∧ c.magic ≤ 4294967295
      · rw [show (decide (0 ≤ c.magic) && decide (c.magic ≤ 4294967295)) = true from by simp [g1.1, g1.2]] at L2
        rw [show (decide (0 ≤ c.echo) && decide (c.echo ≤ 100)) = false from by have := HBD.out; unfold lcfgBad at this; simp; omega] at L3
        have HL := Lib.hid (And.intro L1 (And.intro L2 L3))
        clear L1 L2 L3 hva hvb ha
        try clear m1
        try clear g1
        try clear a0
        go_enter Tryz.func12, Tryz.ntmps12
        go_wp2_with (first
          | (go_at_call 32; first | with_reducible refine (HL.out.1 _).mono ?_ | with_reducible refine (HL.out.2.1 _).mono ?_ | with_reducible refine (HL.out.2.2 _).mono ?_
             rintro e w1 ⟨rfl, rfl⟩))
        go_ret2
        exact ⟨rfl, HB0.out.1⟩
      · rw [show (decide (0 ≤ c.magic) && decide (c.magic ≤ 4294967295)) = false from by simp; omega] at L2
        have HL := Lib.hid (And.intro L1 (And.intro L2 L3))
        clear L1 L2 L3 hva hvb ha
        try clear m1
        try clear g1
        try clear a0
        go_enter Tryz.func12, Tryz.ntmps12
        go_wp2_with (first
          | (go_at_call 32; first | with_reducible refine (HL.out.1 _).mono ?_ | with_reducible refine (HL.out.2.1 _).mono ?_ | with_reducible refine (HL.out.2.2 _).mono ?_
             rintro e w1 ⟨rfl, rfl⟩))
        go_ret2
        exact ⟨rfl, HB0.out.1⟩
    · have ea : (c.auth != 0) = true := by simpa using a0
      by_cases a1 : c.auth = 49187 ∨ c.auth = 49699
      · have ev := hva a1
        by_cases g1 : 0 ≤ c.magic ∧ c.magic ≤ 4294967295
        · rw [show (decide (0 ≤ c.magic) && decide (c.magic ≤ 4294967295)) = true from by simp [g1.1, g1.2]] at L2
          rw [show (decide (0 ≤ c.echo) && decide (c.echo ≤ 100)) = false from by have := HBD.out; unfold lcfgBad at this; simp; omega] at L3
          have HL := Lib.hid (And.intro L1 (And.intro L2 L3))
          clear L1 L2 L3 hva hvb ha
          try clear m1
          try clear g1
          try clear a1
          try clear a0
          go_enter Tryz.func12, Tryz.ntmps12
          go_wp2_with (first
            | (go_at_call 32; first | with_reducible refine (HL.out.1 _).mono ?_ | with_reducible refine (HL.out.2.1 _).mono ?_ | with_reducible refine (HL.out.2.2 _).mono ?_
               rintro e w1 ⟨rfl, rfl⟩)
            | (go_at_call 33; refine (HV.out _).mono ?_; rintro e wu ⟨rfl, hb⟩
               have hz := (hb.block w.heap.size (by rw [HB0.out.2.2]; omega)).trans HB0.out.2.1
               have HZ := Lib.hid (HB0.out.1.trans (hb.mono HB0.out.1.size))
               have x0 := cellOf hz 0 _ rfl
               have x1 := cellOf hz 1 _ rfl
               have x2 := cellOf hz 2 _ rfl
               have x3 := cellOf hz 3 _ rfl
               have x4 := cellOf hz 4 _ rfl
               have x5 := cellOf hz 5 _ rfl
               have x6 := cellOf hz 6 _ rfl
               have x7 := cellOf hz 7 _ rfl
               clear hb hz))
          go_ret2
          exact ⟨rfl, HZ.out⟩
        · rw [show (decide (0 ≤ c.magic) && decide (c.magic ≤ 4294967295)) = false from by simp; omega] at L2
          have HL := Lib.hid (And.intro L1 (And.intro L2 L3))
          clear L1 L2 L3 hva hvb ha
          try clear m1
          try clear g1
          try clear a1
          try clear a0
          go_enter Tryz.func12, Tryz.ntmps12
          go_wp2_with (first
            | (go_at_call 32; first | with_reducible refine (HL.out.1 _).mono ?_ | with_reducible refine (HL.out.2.1 _).mono ?_ | with_reducible refine (HL.out.2.2 _).mono ?_
               rintro e w1 ⟨rfl, rfl⟩)
            | (go_at_call 33; refine (HV.out _).mono ?_; rintro e wu ⟨rfl, hb⟩
               have hz := (hb.block w.heap.size (by rw [HB0.out.2.2]; omega)).trans HB0.out.2.1
               have HZ := Lib.hid (HB0.out.1.trans (hb.mono HB0.out.1.size))
               have x0 := cellOf hz 0 _ rfl
               have x1 := cellOf hz 1 _ rfl
               have x2 := cellOf hz 2 _ rfl
               have x3 := cellOf hz 3 _ rfl
               have x4 := cellOf hz 4 _ rfl
               have x5 := cellOf hz 5 _ rfl
               have x6 := cellOf hz 6 _ rfl
               have x7 := cellOf hz 7 _ rfl
               clear hb hz))
          go_ret2
          exact ⟨rfl, HZ.out⟩
      · have ev := hvb (fun h => a1 (.inl h)) (fun h => a1 (.inr h))
        have HL := Lib.hid (And.intro L1 (And.intro L2 L3))
        clear L1 L2 L3 hva hvb ha
        try clear m1
        try clear g1
        try clear a1
        try clear a0
        go_enter Tryz.func12, Tryz.ntmps12
        go_wp2_with (first
          | (go_at_call 32; first | with_reducible refine (HL.out.1 _).mono ?_ | with_reducible refine (HL.out.2.1 _).mono ?_ | with_reducible refine (HL.out.2.2 _).mono ?_
             rintro e w1 ⟨rfl, rfl⟩)
          | (go_at_call 33; refine (HV.out _).mono ?_; rintro e wu ⟨rfl, hb⟩
             have hz := (hb.block w.heap.size (by rw [HB0.out.2.2]; omega)).trans HB0.out.2.1
             have HZ := Lib.hid (HB0.out.1.trans (hb.mono HB0.out.1.size))
             have x0 := cellOf hz 0 _ rfl
             have x1 := cellOf hz 1 _ rfl
             have x2 := cellOf hz 2 _ rfl
             have x3 := cellOf hz 3 _ rfl
             have x4 := cellOf hz 4 _ rfl
             have x5 := cellOf hz 5 _ rfl
             have x6 := cellOf hz 6 _ rfl
             have x7 := cellOf hz 7 _ rfl
             clear hb hz))
        go_ret2
        exact ⟨rfl, HZ.out⟩
  · rw [show (decide (64 ≤ c.mru) && decide (c.mru ≤ 1492)) = false from by simp; omega] at L1
    have HL := Lib.hid (And.intro L1 (And.intro L2 L3))
    clear L1 L2 L3 hva hvb ha
    try clear m1
    try clear g1
    try clear a0
    go_enter Tryz.func12, Tryz.ntmps12
    go_wp2_with (first
      | (go_at_call 32; first | with_reducible refine (HL.out.1 _).mono ?_ | with_reducible refine (HL.out.2.1 _).mono ?_ | with_reducible refine (HL.out.2.2 _).mono ?_
         rintro e w1 ⟨rfl, rfl⟩))
    go_ret2
    exact ⟨rfl, HB0.out.1⟩
end Go.Proofs.YthhdackaopaojaaGreat

/- A link whose negotiation cannot be. -/
namespace Go.Proofs.YthhdackaopaojaaGreat
open Go.RowKit Go.Tg Go.Maps

structure LCfg.Ok1 (c : LCfg) : Prop where
  mru : 64 ≤ c.mru ∧ c.mru ≤ 1492
  auth : c.auth = 0 ∨ c.auth = 49187 ∨ c.auth = 49699
  magic : 0 ≤ c.magic ∧ c.magic ≤ 4294967295
  echo : 0 ≤ c.echo ∧ c.echo ≤ 100

end Go.Proofs.YthhdackaopaojaaGreat
