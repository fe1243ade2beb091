import Derived.Test.YthhdackaopaojaaGreatK25
import Derived.Test.YthhdackaopaojaaGreatK23
/- Links that are not made. -/
namespace Go.Proofs.YthhdackaopaojaaGreat
open Go.RowKit Go.Tg Go.Maps

set_option maxHeartbeats 4000000 in
set_option maxRecDepth 100000 in
theorem newBy_bad (sa so sp sm : Option Addr) (na ca no co np cp nm cm : Nat) (cf tm fl wt : Int) (w : World) (g : Nat) (pf : Value)
    (hb : inB20 cf = false ∨ inB20 tm = false ∨ fl < 0 ∨ 20 < fl ∨ wt < 1 ∨ 100 < wt) :
    Calls Tryz.prog 34 #[.agg #[.slice sa na ca, .slice so no co, .slice sp np cp, .slice sm nm cm, .int .i64 cf, .int .i64 tm, .int .i64 fl, .int .i64 wt], .func (.func g) #[pf] #[]] w fun e w' => e = .returned (.tuple #[.pointer none, .int .i64 1]) ∧ Below w.heap.size w w' := by
  have hb0 := (Below.refl w.heap.size w).alloc (Nat.le_refl _) (.cells #[.slice sa na ca, .slice so no co, .slice sp np cp, .slice sm nm cm, .int .i64 cf, .int .i64 tm, .int .i64 fl, .int .i64 wt] 78 (0, 0))
  have hz := at1 w (.cells #[.slice sa na ca, .slice so no co, .slice sp np cp, .slice sm nm cm, .int .i64 cf, .int .i64 tm, .int .i64 fl, .int .i64 wt] 78 (0, 0))
  have hs := alloc1 w (.cells #[.slice sa na ca, .slice so no co, .slice sp np cp, .slice sm nm cm, .int .i64 cf, .int .i64 tm, .int .i64 fl, .int .i64 wt] 78 (0, 0))
  have HB := Lib.hid (And.intro hb0 (And.intro hz hs))
  have HH := Lib.hid hb
  clear hb hb0 hz hs
  by_cases h1 : inB20 cf = false ∨ inB20 tm = false
  · have HN := Lib.hid (new_bad cf tm (w.alloc (.cells #[.slice sa na ca, .slice so no co, .slice sp np cp, .slice sm nm cm, .int .i64 cf, .int .i64 tm, .int .i64 fl, .int .i64 wt] 78 (0, 0))) h1)
    clear h1
    go_enter Tryz.func34, Tryz.ntmps34
    go_wp2_with fail
    refine HN.out.mono ?_
    rintro e _ ⟨rfl, rfl⟩
    go_wp2_with fail
    go_ret2
    exact ⟨rfl, HB.out.1⟩
  · have hcf : inB20 cf = true := by cases h : inB20 cf with | true => rfl | false => exact absurd (.inl h) h1
    have htm : inB20 tm = true := by cases h : inB20 tm with | true => rfl | false => exact absurd (.inr h) h1
    have HN := Lib.hid (new_ok cf tm (w.alloc (.cells #[.slice sa na ca, .slice so no co, .slice sp np cp, .slice sm nm cm, .int .i64 cf, .int .i64 tm, .int .i64 fl, .int .i64 wt] 78 (0, 0))) hcf htm)
    clear hcf htm
    by_cases h2 : fl < 0
    · have d1 : decide (fl < 0) = true := by simpa using h2
      clear HH h1 h2
      go_enter Tryz.func34, Tryz.ntmps34
      go_wp2_with fail
      refine HN.out.mono ?_
      rintro e w1 ⟨rfl, -, hk⟩
      have hb1 := hk.below (Nat.le_refl _) (fun _ _ h => h)
      have z1 := (hb1.block w.heap.size (by rw [HB.out.2.2]; omega)).trans HB.out.2.1
      have x6 := cellOf z1 6 _ rfl
      have x7 := cellOf z1 7 _ rfl
      have HB1 := Lib.hid (HB.out.1.trans (hb1.mono HB.out.1.size))
      clear hk hb1 z1
      go_wp2_with fail
      go_ret2
      exact ⟨rfl, HB1.out⟩
    · have d1 : decide (fl < 0) = false := by simpa using h2
      by_cases h3 : 20 < fl
      · have d2 : decide ((20 : Int) < fl) = true := by simpa using h3
        clear h3
        clear HH h1 h2
        go_enter Tryz.func34, Tryz.ntmps34
        go_wp2_with fail
        refine HN.out.mono ?_
        rintro e w1 ⟨rfl, -, hk⟩
        have hb1 := hk.below (Nat.le_refl _) (fun _ _ h => h)
        have z1 := (hb1.block w.heap.size (by rw [HB.out.2.2]; omega)).trans HB.out.2.1
        have x6 := cellOf z1 6 _ rfl
        have x7 := cellOf z1 7 _ rfl
        have HB1 := Lib.hid (HB.out.1.trans (hb1.mono HB.out.1.size))
        clear hk hb1 z1
        go_wp2_with fail
        go_ret2
        exact ⟨rfl, HB1.out⟩
      · have d2 : decide ((20 : Int) < fl) = false := by simpa using h3
        by_cases h4 : wt < 1
        · have d3 : decide (wt < 1) = true := by simpa using h4
          clear h3 h4
          clear HH h1 h2
          go_enter Tryz.func34, Tryz.ntmps34
          go_wp2_with fail
          refine HN.out.mono ?_
          rintro e w1 ⟨rfl, -, hk⟩
          have hb1 := hk.below (Nat.le_refl _) (fun _ _ h => h)
          have z1 := (hb1.block w.heap.size (by rw [HB.out.2.2]; omega)).trans HB.out.2.1
          have x6 := cellOf z1 6 _ rfl
          have x7 := cellOf z1 7 _ rfl
          have HB1 := Lib.hid (HB.out.1.trans (hb1.mono HB.out.1.size))
          clear hk hb1 z1
          go_wp2_with fail
          go_ret2
          exact ⟨rfl, HB1.out⟩
        · have d3 : decide (wt < 1) = false := by simpa using h4
          have h5 : 100 < wt := by
            rcases HH.out with h | h | h | h | h | h
            · exact absurd (.inl h) h1
            · exact absurd (.inr h) h1
            · exact absurd h h2
            · exact absurd h h3
            · exact absurd h h4
            · exact h
          have d4 : decide ((100 : Int) < wt) = true := by simpa using h5
          clear h3 h4 h5
          clear HH h1 h2
          go_enter Tryz.func34, Tryz.ntmps34
          go_wp2_with fail
          refine HN.out.mono ?_
          rintro e w1 ⟨rfl, -, hk⟩
          have hb1 := hk.below (Nat.le_refl _) (fun _ _ h => h)
          have z1 := (hb1.block w.heap.size (by rw [HB.out.2.2]; omega)).trans HB.out.2.1
          have x6 := cellOf z1 6 _ rfl
          have x7 := cellOf z1 7 _ rfl
          have HB1 := Lib.hid (HB.out.1.trans (hb1.mono HB.out.1.size))
          clear hk hb1 z1
          go_wp2_with fail
          go_ret2
          exact ⟨rfl, HB1.out⟩

/-! ### New -/
def lcfgBad (c : LCfg) : Prop := (c.mru < 64 ∨ 1492 < c.mru) ∨ (c.auth ≠ 0 ∧ c.auth ≠ 49187 ∧ c.auth ≠ 49699) ∨ (c.magic < 0 ∨ 4294967295 < c.magic) ∨ (c.echo < 0 ∨ 100 < c.echo)
def LFail (w w' : World) (e : Ending) : Prop := e = .returned (.tuple #[.pointer none, .int .i64 1]) ∧ Below w.heap.size w w'

set_option maxHeartbeats 8000000 in
set_option maxRecDepth 100000 in
theorem lnew_bad1 (c : LCfg) (ha : I64 c.auth) (hb : lcfgBad c) (v : Value) (w : World) :
    Calls Tryz.prog 12 #[cfgV c, v] w fun e w' => LFail w w' e := by
  have L1 := lin_any c.mru 64 1492
  have L2 := lin_any c.magic 0 4294967295
  have L3 := lin_any c.echo 0 100
  have HV := Lib.hid (fun w => lvalue_any c.auth w ha)
  have hb0 := (Below.refl w.heap.size w).alloc (Nat.le_refl _) (.cells #[.int .i64 c.mru, .int .i64 c.auth, .int .i64 c.magic, .int .i64 c.echo, .int .i64 c.cf, .int .i64 c.tm, .int .i64 c.fl, .int .i64 c.wt] 24 (0, 0))
  have hz := at1 w (.cells #[.int .i64 c.mru, .int .i64 c.auth, .int .i64 c.magic, .int .i64 c.echo, .int .i64 c.cf, .int .i64 c.tm, .int .i64 c.fl, .int .i64 c.wt] 24 (0, 0))
  have hs := alloc1 w (.cells #[.int .i64 c.mru, .int .i64 c.auth, .int .i64 c.magic, .int .i64 c.echo, .int .i64 c.cf, .int .i64 c.tm, .int .i64 c.fl, .int .i64 c.wt] 24 (0, 0))
  have HB0 := Lib.hid (And.intro hb0 (And.intro hz hs))
  have HBD := Lib.hid hb
  have hva : c.auth = 49187 ∨ c.auth = 49699 → (lvalS c.auth).toList.isEmpty = false := by
    rintro (h | h)
    · rw [h, isE]; decide
    · rw [h, isE]; decide
  have hvb : c.auth ≠ 49187 → c.auth ≠ 49699 → (lvalS c.auth).toList.isEmpty = true := by
    intro h1 h2
    unfold lvalS
    rw [if_neg h1, if_neg h2, isE]; decide
  unfold cfgV
  clear hb hb0 hz hs
  by_cases m1 : 64 ≤ c.mru ∧ c.mru ≤ 1492
  · rw [show (decide (64 ≤ c.mru) && decide (c.mru ≤ 1492)) = true from by simp [m1.1, m1.2]] at L1
    by_cases a0 : c.auth = 0
    · have ea : (c.auth != 0) = false := by simp [a0]
      by_cases g1 : 0 ≤ c.magic ∧ c.magic ≤ 4294967295
      · rw [show (decide (0 ≤ c.magic) && decide (c.magic ≤ 4294967295)) = true from by simp [g1.1, g1.2]] at L2
        rw [show (decide (0 ≤ c.echo) && decide (c.echo ≤ 100)) = false from by have := HBD.out; unfold lcfgBad at this; simp; omega] at L3
        have HL := Lib.hid (And.intro L1 (And.intro L2 L3))
        clear L1 L2 L3 hva hvb ha
        try clear m1
        try clear g1
        try clear a0
        go_enter Tryz.func12, Tryz.ntmps12
        go_wp2_with (first
          | (go_at_call 32; first | with_reducible refine (HL.out.1 _).mono ?_ | with_reducible refine (HL.out.2.1 _).mono ?_ | with_reducible refine (HL.out.2.2 _).mono ?_
             rintro e w1 ⟨rfl, rfl⟩))
        go_ret2
        exact ⟨rfl, HB0.out.1⟩
      · rw [show (decide (0 ≤ c.magic) && decide (c.magic ≤ 4294967295)) = false from by simp; omega] at L2
        have HL := Lib.hid (And.intro L1 (And.intro L2 L3))
        clear L1 L2 L3 hva hvb ha
        try clear m1
        try clear g1
        try clear a0
        go_enter Tryz.func12, Tryz.ntmps12
        go_wp2_with (first
          | (go_at_call 32; first | with_reducible refine (HL.out.1 _).mono ?_ | with_reducible refine (HL.out.2.1 _).mono ?_ | with_reducible refine (HL.out.2.2 _).mono ?_
             rintro e w1 ⟨rfl, rfl⟩))
        go_ret2
        exact ⟨rfl, HB0.out.1⟩
    · have ea : (c.auth != 0) = true := by simpa using a0
      by_cases a1 : c.auth = 49187 ∨ c.auth = 49699
      · have ev := hva a1
        by_cases g1 : 0 ≤ c.magic ∧ c.magic ≤ 4294967295
        · rw [show (decide (0 ≤ c.magic) && decide (c.magic ≤ 4294967295)) = true from by simp [g1.1, g1.2]] at L2
          rw [show (decide (0 ≤ c.echo) && decide (c.echo ≤ 100)) = false from by have := HBD.out; unfold lcfgBad at this; simp; omega] at L3
          have HL := Lib.hid (And.intro L1 (And.intro L2 L3))
          clear L1 L2 L3 hva hvb ha
          try clear m1
          try clear g1
          try clear a1
          try clear a0
          go_enter Tryz.func12, Tryz.ntmps12
          go_wp2_with (first
            | (go_at_call 32; first | with_reducible refine (HL.out.1 _).mono ?_ | with_reducible refine (HL.out.2.1 _).mono ?_ | with_reducible refine (HL.out.2.2 _).mono ?_
               rintro e w1 ⟨rfl, rfl⟩)
            | (go_at_call 33; refine (HV.out _).mono ?_; rintro e wu ⟨rfl, hb⟩
               have hz := (hb.block w.heap.size (by rw [HB0.out.2.2]; omega)).trans HB0.out.2.1
               have HZ := Lib.hid (HB0.out.1.trans (hb.mono HB0.out.1.size))
               have x0 := cellOf hz 0 _ rfl
               have x1 := cellOf hz 1 _ rfl
               have x2 := cellOf hz 2 _ rfl
               have x3 := cellOf hz 3 _ rfl
               have x4 := cellOf hz 4 _ rfl
               have x5 := cellOf hz 5 _ rfl
               have x6 := cellOf hz 6 _ rfl
               have x7 := cellOf hz 7 _ rfl
               clear hb hz))
          go_ret2
          exact ⟨rfl, HZ.out⟩
        · rw [show (decide (0 ≤ c.magic) && decide (c.magic ≤ 4294967295)) = false from by simp; omega] at L2
          have HL := Lib.hid (And.intro L1 (And.intro L2 L3))
          clear L1 L2 L3 hva hvb ha
          try clear m1
          try clear g1
          try clear a1
          try clear a0
          go_enter Tryz.func12, Tryz.ntmps12
          go_wp2_with (first
            | (go_at_call 32; first | with_reducible refine (HL.out.1 _).mono ?_ | with_reducible refine (HL.out.2.1 _).mono ?_ | with_reducible refine (HL.out.2.2 _).mono ?_
               rintro e w1 ⟨rfl, rfl⟩)
            | (go_at_call 33; refine (HV.out _).mono ?_; rintro e wu ⟨rfl, hb⟩
               have hz := (hb.block w.heap.size (by rw [HB0.out.2.2]; omega)).trans HB0.out.2.1
               have HZ := Lib.hid (HB0.out.1.trans (hb.mono HB0.out.1.size))
               have x0 := cellOf hz 0 _ rfl
               have x1 := cellOf hz 1 _ rfl
               have x2 := cellOf hz 2 _ rfl
               have x3 := cellOf hz 3 _ rfl
               have x4 := cellOf hz 4 _ rfl
               have x5 := cellOf hz 5 _ rfl
               have x6 := cellOf hz 6 _ rfl
               have x7 := cellOf hz 7 _ rfl
               clear hb hz))
          go_ret2
          exact ⟨rfl, HZ.out⟩
      · have ev := hvb (fun h => a1 (.inl h)) (fun h => a1 (.inr h))
        have HL := Lib.hid (And.intro L1 (And.intro L2 L3))
        clear L1 L2 L3 hva hvb ha
        try clear m1
        try clear g1
        try clear a1
        try clear a0
        go_enter Tryz.func12, Tryz.ntmps12
        go_wp2_with (first
          | (go_at_call 32; first | with_reducible refine (HL.out.1 _).mono ?_ | with_reducible refine (HL.out.2.1 _).mono ?_ | with_reducible refine (HL.out.2.2 _).mono ?_
             rintro e w1 ⟨rfl, rfl⟩)
          | (go_at_call 33; refine (HV.out _).mono ?_; rintro e wu ⟨rfl, hb⟩
             have hz := (hb.block w.heap.size (by rw [HB0.out.2.2]; omega)).trans HB0.out.2.1
             have HZ := Lib.hid (HB0.out.1.trans (hb.mono HB0.out.1.size))
             have x0 := cellOf hz 0 _ rfl
             have x1 := cellOf hz 1 _ rfl
             have x2 := cellOf hz 2 _ rfl
             have x3 := cellOf hz 3 _ rfl
             have x4 := cellOf hz 4 _ rfl
             have x5 := cellOf hz 5 _ rfl
             have x6 := cellOf hz 6 _ rfl
             have x7 := cellOf hz 7 _ rfl
             clear hb hz))
        go_ret2
        exact ⟨rfl, HZ.out⟩
  · rw [show (decide (64 ≤ c.mru) && decide (c.mru ≤ 1492)) = false from by simp; omega] at L1
    have HL := Lib.hid (And.intro L1 (And.intro L2 L3))
    clear L1 L2 L3 hva hvb ha
    try clear m1
    try clear g1
    try clear a0
    go_enter Tryz.func12, Tryz.ntmps12
    go_wp2_with (first
      | (go_at_call 32; first | with_reducible refine (HL.out.1 _).mono ?_ | with_reducible refine (HL.out.2.1 _).mono ?_ | with_reducible refine (HL.out.2.2 _).mono ?_
         rintro e w1 ⟨rfl, rfl⟩))
    go_ret2
    exact ⟨rfl, HB0.out.1⟩
end Go.Proofs.YthhdackaopaojaaGreat

/- A link whose negotiation cannot be. -/
namespace Go.Proofs.YthhdackaopaojaaGreat
open Go.RowKit Go.Tg Go.Maps

structure LCfg.Ok1 (c : LCfg) : Prop where
  mru : 64 ≤ c.mru ∧ c.mru ≤ 1492
  auth : c.auth = 0 ∨ c.auth = 49187 ∨ c.auth = 49699
  magic : 0 ≤ c.magic ∧ c.magic ≤ 4294967295
  echo : 0 ≤ c.echo ∧ c.echo ≤ 100

set_option maxHeartbeats 16000000 in
set_option maxRecDepth 100000 in
theorem lnew_bad2 (c : LCfg) (hc : c.Ok1) (hb : inB20 c.cf = false ∨ inB20 c.tm = false ∨ c.fl < 0 ∨ 20 < c.fl ∨ c.wt < 1 ∨ 100 < c.wt) (w : World) :
    Calls Tryz.prog 12 #[cfgV c, .pointer none] w fun e w' => LFail w w' e := by
  have q1 : ∀ w, (binOp .eql 31 (.pointer none) (.pointer none)).run Tryz.prog w = .ok (.bool true) w := fun w => by kernel_rfl
  have L1 : ∀ w, Calls Tryz.prog 32 #[.int .i64 c.mru, .int .i64 64, .int .i64 1492] w fun e w' => e = .returned (.bool true) ∧ w = w' := fun w => (lin_any c.mru 64 1492 w).mono (fun e w' h => by have := hc.mru; refine ⟨by rw [h.1]; simp [this.1, this.2], h.2⟩)
  have L2 : ∀ w, Calls Tryz.prog 32 #[.int .i64 c.magic, .int .i64 0, .int .i64 4294967295] w fun e w' => e = .returned (.bool true) ∧ w = w' := fun w => (lin_any c.magic 0 4294967295 w).mono (fun e w' h => by have := hc.magic; refine ⟨by rw [h.1]; simp [this.1, this.2], h.2⟩)
  have L3 : ∀ w, Calls Tryz.prog 32 #[.int .i64 c.echo, .int .i64 0, .int .i64 100] w fun e w' => e = .returned (.bool true) ∧ w = w' := fun w => (lin_any c.echo 0 100 w).mono (fun e w' h => by have := hc.echo; refine ⟨by rw [h.1]; simp [this.1, this.2], h.2⟩)
  have HL := Lib.hid (And.intro L1 (And.intro L2 L3))
  have H := Lib.hid hc
  have hia : I64 c.auth := by rcases hc.auth with h | h | h <;> rw [h] <;> (unfold I64; decide)
  have HV := Lib.hid (fun w => lvalue_any c.auth w hia)
  have hva : c.auth ≠ 0 → (lvalS c.auth).toList.isEmpty = false := by
    intro h0
    rcases hc.auth with h | h | h
    · exact absurd h h0
    · rw [h, isE]; decide
    · rw [h, isE]; decide
  have hb0 := (Below.refl w.heap.size w).alloc (Nat.le_refl _) (cfgO c)
  have HB0 := Lib.hid (And.intro hb0 (And.intro (at1 w (cfgO c)) (alloc1 w (cfgO c))))
  have HIA := Lib.hid hia
  have HNN := Lib.hid (fun (lb : Nat) (WN : World) (sa : Option Addr) (na ca rb ib : Nat) => newBy_bad sa (some ⟨rb, 0, none⟩) none (some ⟨ib, 0, none⟩) na ca 2 2 0 0 1 1 c.cf c.tm c.fl c.wt WN 37 (.pointer (some ⟨lb, 0, none⟩)) hb)
  unfold cfgV
  clear L1 L2 L3 hc hia hb
  by_cases h0 : c.auth = 0
  · skip
    clear hva
    have hz := HB0.out.2.1
    unfold cfgO at hz
    have ea : (c.auth != 0) = false := by simp [h0]
    clear h0 hz
    go_enter Tryz.func12, Tryz.ntmps12
    go_wp2_with (first
      | (go_at_call 32; first | with_reducible refine (HL.out.1 _).mono ?_ | with_reducible refine (HL.out.2.1 _).mono ?_ | with_reducible refine (HL.out.2.2 _).mono ?_
         rintro e w1 ⟨rfl, rfl⟩)
      | (go_at_call 13; refine (tapeNew_any [] _ (fun _ => False) _ (Rec.nil _ _ _) (fun _ h => by cases h) (by decide)).mono ?_; rintro e wv ⟨tb, rfl, t5, s5, b5⟩
         have HT5 := Lib.hid (And.intro t5 (And.intro t5.lt (Nat.le_trans HB0.out.1.size s5)))
         have HZ := Lib.hid (show Below w.heap.size w wv ∧ wv.heap[w.heap.size]? = some (cfgO c) from ⟨HB0.out.1.trans (b5.mono HB0.out.1.size), (b5.block _ (Array.getElem?_eq_some_iff.1 HB0.out.2.1).1).trans HB0.out.2.1⟩)
         have hz := HZ.out.2
         unfold cfgO at hz
         have x0 := cellOf hz 0 _ rfl
         have x1 := cellOf hz 1 _ rfl
         have x2 := cellOf hz 2 _ rfl
         have x3 := cellOf hz 3 _ rfl
         have x4 := cellOf hz 4 _ rfl
         have x5 := cellOf hz 5 _ rfl
         have x6 := cellOf hz 6 _ rfl
         have x7 := cellOf hz 7 _ rfl
         clear t5 s5 b5 hz))
    clear x0 x1 x2 x3 x4 x5 x6 x7
    have hz1 : (wv.alloc (.cells #[.pointer none, .pointer (some ⟨tb, 0, none⟩), .int .i64 c.echo, .int .i64 c.magic, .int .i64 0, .int .i64 0, .int .i64 0] 64 (0, 0))).heap[w.heap.size]? = some (cfgO c) := (Below.heap_alloc _ _ _ (Array.getElem?_eq_some_iff.1 HZ.out.2).1).trans HZ.out.2
    have hl1 := at1 wv (.cells #[.pointer none, .pointer (some ⟨tb, 0, none⟩), .int .i64 c.echo, .int .i64 c.magic, .int .i64 0, .int .i64 0, .int .i64 0] 64 (0, 0))
    have hw1 : Below w.heap.size w (wv.alloc (.cells #[.pointer none, .pointer (some ⟨tb, 0, none⟩), .int .i64 c.echo, .int .i64 c.magic, .int .i64 0, .int .i64 0, .int .i64 0] 64 (0, 0))) := HZ.out.1.alloc HZ.out.1.size _
    have hs1 := alloc1 wv (.cells #[.pointer none, .pointer (some ⟨tb, 0, none⟩), .int .i64 c.echo, .int .i64 c.magic, .int .i64 0, .int .i64 0, .int .i64 0] 64 (0, 0))
    have hlb : w.heap.size < wv.heap.size := (Array.getElem?_eq_some_iff.1 HZ.out.2).1
    obtain ⟨okt, hokt⟩ : ∃ okt : Nat → Prop, okt = fun b => (w.alloc (cfgO c)).heap.size ≤ b ∧ b < tb := ⟨_, rfl⟩
    have ht1 : TapeAt (wv.alloc (.cells #[.pointer none, .pointer (some ⟨tb, 0, none⟩), .int .i64 c.echo, .int .i64 c.magic, .int .i64 0, .int .i64 0, .int .i64 0] 64 (0, 0))) tb okt ⟨[], 0⟩ := by rw [hokt]; exact HT5.out.1.below ((Below.refl _ _).alloc (Nat.le_refl _) _)
    have htl := HT5.out.2.1
    have HW := Lib.hid (And.intro (show ∀ b, okt b → w.heap.size ≤ b from fun b hb => by rw [hokt] at hb; exact Nat.le_trans HB0.out.1.size hb.1) HT5.out.2.2)
    have HOK := Lib.hid (show ∀ b, okt b → b < tb from fun b hb => by rw [hokt] at hb; exact hb.2)
    obtain ⟨lb, hlbe⟩ : ∃ lb, lb = wv.heap.size := ⟨_, rfl⟩
    generalize hW1 : wv.alloc (.cells #[.pointer none, .pointer (some ⟨tb, 0, none⟩), .int .i64 c.echo, .int .i64 c.magic, .int .i64 0, .int .i64 0, .int .i64 0] 64 (0, 0)) = W1 at hz1 hl1 hw1 hs1 ht1 ⊢
    rw [← hlbe] at hl1 hs1 hlb htl ⊢
    clear hW1 hlbe HZ hokt HT5
    have HZ := Lib.hid (And.intro hz1 (And.intro hl1 (And.intro hw1 (And.intro hs1 hlb))))
    have HS : Hid (∀ W, Below W1.heap.size W1 W → (fun Y : World => Y.cell? ⟨w.heap.size, 0, none⟩ = some (.int .i64 c.mru) ∧ Y.cell? ⟨w.heap.size, 1, none⟩ = some (.int .i64 c.auth) ∧ Y.cell? ⟨w.heap.size, 2, none⟩ = some (.int .i64 c.magic) ∧ Y.cell? ⟨w.heap.size, 3, none⟩ = some (.int .i64 c.echo) ∧ Y.cell? ⟨w.heap.size, 4, none⟩ = some (.int .i64 c.cf) ∧ Y.cell? ⟨w.heap.size, 5, none⟩ = some (.int .i64 c.tm) ∧ Y.cell? ⟨w.heap.size, 6, none⟩ = some (.int .i64 c.fl) ∧ Y.cell? ⟨w.heap.size, 7, none⟩ = some (.int .i64 c.wt)) W) := Lib.hid fun W hW => by
      have h : W.heap[w.heap.size]? = some (.cells #[.int .i64 c.mru, .int .i64 c.auth, .int .i64 c.magic, .int .i64 c.echo, .int .i64 c.cf, .int .i64 c.tm, .int .i64 c.fl, .int .i64 c.wt] 24 (0, 0)) := (hW.block _ (by have := HZ.out.2.2.2.1; have := HZ.out.2.2.2.2; omega)).trans HZ.out.1
      exact ⟨cellOf h 0 _ rfl, cellOf h 1 _ rfl, cellOf h 2 _ rfl, cellOf h 3 _ rfl, cellOf h 4 _ rfl, cellOf h 5 _ rfl, cellOf h 6 _ rfl, cellOf h 7 _ rfl⟩
    have HLO := Lib.hid (fun W => lopts_any c W HIA.out)
    unfold cfgV at HLO
    have a1 : ∀ (W : World) (O : Obj), W.heap.size < (W.alloc O).heap.size := fun W O => by rw [alloc1]; omega
    have HA1 := Lib.hid a1
    obtain ⟨y0, y1, y2, y3, y4, y5, y6, y7⟩ := HS.out W1.drew (Below.refl _ _).drew
    clear hz1 hl1 hw1 hs1 hlb a1 ht1 htl
    refine wp_region_H (rgH 0 23) (fun Y : World => Y.cell? ⟨w.heap.size, 0, none⟩ = some (.int .i64 c.mru) ∧ Y.cell? ⟨w.heap.size, 1, none⟩ = some (.int .i64 c.auth) ∧ Y.cell? ⟨w.heap.size, 2, none⟩ = some (.int .i64 c.magic) ∧ Y.cell? ⟨w.heap.size, 3, none⟩ = some (.int .i64 c.echo) ∧ Y.cell? ⟨w.heap.size, 4, none⟩ = some (.int .i64 c.cf) ∧ Y.cell? ⟨w.heap.size, 5, none⟩ = some (.int .i64 c.tm) ∧ Y.cell? ⟨w.heap.size, 6, none⟩ = some (.int .i64 c.fl) ∧ Y.cell? ⟨w.heap.size, 7, none⟩ = some (.int .i64 c.wt)) (by kernel_rfl) ?_
    have HSv : (fun Y : World => Y.cell? ⟨w.heap.size, 0, none⟩ = some (.int .i64 c.mru) ∧ Y.cell? ⟨w.heap.size, 1, none⟩ = some (.int .i64 c.auth) ∧ Y.cell? ⟨w.heap.size, 2, none⟩ = some (.int .i64 c.magic) ∧ Y.cell? ⟨w.heap.size, 3, none⟩ = some (.int .i64 c.echo) ∧ Y.cell? ⟨w.heap.size, 4, none⟩ = some (.int .i64 c.cf) ∧ Y.cell? ⟨w.heap.size, 5, none⟩ = some (.int .i64 c.tm) ∧ Y.cell? ⟨w.heap.size, 6, none⟩ = some (.int .i64 c.fl) ∧ Y.cell? ⟨w.heap.size, 7, none⟩ = some (.int .i64 c.wt)) W1.drew := HS.out _ (Below.refl _ _).drew
    have HB := Lib.hid (show Below W1.heap.size W1 W1.drew from (Below.refl _ _).drew)
    refine wpAnyH_at 0 (v := ?vv65) rfl (by kernel_rfl) (by kernel_rfl) (by kernel_rfl) (fun _ _ _ h => h) ?hy65 HSv ?hh65
    case hy65 =>
      refine Or.inl ⟨by rfl, ?_⟩
      intro W hW
      obtain ⟨h0, h1, h2, h3, h4, h5, h6, h7⟩ := hW
      go_simp
      try with_reducible rfl
    simp only [Act.put, List.setIfInBounds_toArray, List.set_cons_zero, List.set_cons_succ]
    refine wpAnyH_at 6 (v := ?vv66) rfl (by kernel_rfl) (by kernel_rfl) (by kernel_rfl) (fun _ _ _ h => h) ?hy66 HSv ?hh66
    case hy66 =>
      refine Or.inl ⟨by rfl, ?_⟩
      intro W hW
      obtain ⟨h0, h1, h2, h3, h4, h5, h6, h7⟩ := hW
      go_simp
      try with_reducible rfl
    simp only [Act.put, List.setIfInBounds_toArray, List.set_cons_zero, List.set_cons_succ]
    refine wpAnyH_at 7 (v := ?vv67) rfl (by kernel_rfl) (by kernel_rfl) (by kernel_rfl) (fun _ _ _ h => h) ?hy67 HSv ?hh67
    case hy67 =>
      refine Or.inl ⟨by rfl, ?_⟩
      intro W hW
      obtain ⟨h0, h1, h2, h3, h4, h5, h6, h7⟩ := hW
      go_simp
      try with_reducible rfl
    simp only [Act.put, List.setIfInBounds_toArray, List.set_cons_zero, List.set_cons_succ]
    refine wpAnyH_at 8 (v := ?vv68) rfl (by kernel_rfl) (by kernel_rfl) (by kernel_rfl) (fun _ _ _ h => h) ?hy68 HSv ?hh68
    case hy68 =>
      refine Or.inl ⟨by rfl, ?_⟩
      intro W hW
      obtain ⟨h0, h1, h2, h3, h4, h5, h6, h7⟩ := hW
      go_simp
      try with_reducible rfl
    simp only [Act.put, List.setIfInBounds_toArray, List.set_cons_zero, List.set_cons_succ]
    refine wpAnyH_at 9 (v := ?vv69) rfl (by kernel_rfl) (by kernel_rfl) (by kernel_rfl) (fun _ _ _ h => h) ?hy69 HSv ?hh69
    case hy69 =>
      refine Or.inl ⟨by rfl, ?_⟩
      intro W hW
      obtain ⟨h0, h1, h2, h3, h4, h5, h6, h7⟩ := hW
      go_simp
      try with_reducible rfl
    simp only [Act.put, List.setIfInBounds_toArray, List.set_cons_zero, List.set_cons_succ]
    refine wpAnyH_at 10 (v := ?vv70) rfl (by kernel_rfl) (by kernel_rfl) (by kernel_rfl) (fun _ _ _ h => h) ?hy70 HSv ?hh70
    case hy70 =>
      refine Or.inl ⟨by rfl, ?_⟩
      intro W hW
      obtain ⟨h0, h1, h2, h3, h4, h5, h6, h7⟩ := hW
      go_simp
      try with_reducible rfl
    simp only [Act.put, List.setIfInBounds_toArray, List.set_cons_zero, List.set_cons_succ]
    refine wpAnyH_at 11 (v := ?vv71) rfl (by kernel_rfl) (by kernel_rfl) (by kernel_rfl) (fun _ _ _ h => h) ?hy71 HSv ?hh71
    case hy71 =>
      refine Or.inl ⟨by rfl, ?_⟩
      intro W hW
      obtain ⟨h0, h1, h2, h3, h4, h5, h6, h7⟩ := hW
      go_simp
      try with_reducible rfl
    simp only [Act.put, List.setIfInBounds_toArray, List.set_cons_zero, List.set_cons_succ]
    refine wpAnyH_at 12 (v := ?vv72) rfl (by kernel_rfl) (by kernel_rfl) (by kernel_rfl) (fun _ _ _ h => h) ?hy72 HSv ?hh72
    case hy72 =>
      refine Or.inl ⟨by rfl, ?_⟩
      intro W hW
      obtain ⟨h0, h1, h2, h3, h4, h5, h6, h7⟩ := hW
      go_simp
      try with_reducible rfl
    simp only [Act.put, List.setIfInBounds_toArray, List.set_cons_zero, List.set_cons_succ]
    refine wpAnyH_at 13 (v := ?vv73) rfl (by kernel_rfl) (by kernel_rfl) (by kernel_rfl) (fun _ _ _ h => h) ?hy73 HSv ?hh73
    case hy73 =>
      refine Or.inl ⟨by rfl, ?_⟩
      intro W hW
      obtain ⟨h0, h1, h2, h3, h4, h5, h6, h7⟩ := hW
      go_simp
      try with_reducible rfl
    simp only [Act.put, List.setIfInBounds_toArray, List.set_cons_zero, List.set_cons_succ]
    refine wpAnyH_at 15 (v := ?vv74) rfl (by kernel_rfl) (by kernel_rfl) (by kernel_rfl) (fun _ _ _ h => h) ?hy74 HSv ?hh74
    case hy74 =>
      refine Or.inl ⟨by rfl, ?_⟩
      intro W hW
      obtain ⟨h0, h1, h2, h3, h4, h5, h6, h7⟩ := hW
      go_simp
      try with_reducible rfl
    simp only [Act.put, List.setIfInBounds_toArray, List.set_cons_zero, List.set_cons_succ]
    refine wpAnyH_at 16 (v := ?vv75) rfl (by kernel_rfl) (by kernel_rfl) (by kernel_rfl) (fun _ _ _ h => h) ?hy75 HSv ?hh75
    case hy75 =>
      refine Or.inl ⟨by rfl, ?_⟩
      intro W hW
      obtain ⟨h0, h1, h2, h3, h4, h5, h6, h7⟩ := hW
      go_simp
      try with_reducible rfl
    simp only [Act.put, List.setIfInBounds_toArray, List.set_cons_zero, List.set_cons_succ]
    generalize W1.drew = W at HSv HB ⊢
    refine wpAnyH_2 1 5 rfl rfl (by kernel_rfl) ?_ ?_
    · intro K hK
      rw [if_pos (by rfl)]
      try go_simp
      go_at_call 18
      refine (HLO.out _).mono ?_
      rintro e W2 ⟨vA, rfl, rA, bA⟩
      obtain ⟨sA, cA, rfl⟩ := rA.form
      have HR := Lib.hid (rA.base HB.out.size)
      have HB := Lib.hid (HB.out.trans (bA.mono HB.out.size))
      have HSv : (fun Y : World => Y.cell? ⟨w.heap.size, 0, none⟩ = some (.int .i64 c.mru) ∧ Y.cell? ⟨w.heap.size, 1, none⟩ = some (.int .i64 c.auth) ∧ Y.cell? ⟨w.heap.size, 2, none⟩ = some (.int .i64 c.magic) ∧ Y.cell? ⟨w.heap.size, 3, none⟩ = some (.int .i64 c.echo) ∧ Y.cell? ⟨w.heap.size, 4, none⟩ = some (.int .i64 c.cf) ∧ Y.cell? ⟨w.heap.size, 5, none⟩ = some (.int .i64 c.tm) ∧ Y.cell? ⟨w.heap.size, 6, none⟩ = some (.int .i64 c.fl) ∧ Y.cell? ⟨w.heap.size, 7, none⟩ = some (.int .i64 c.wt)) W2 := HS.out _ HB.out
      refine hK _ _ (fun _ => HSv) ?_
      try simp only [Act.put, List.setIfInBounds_toArray, List.set_cons_zero, List.set_cons_succ]
      clear rA bA
      refine wpAnyH_2 2 5 rfl rfl (by kernel_rfl) ?_ ?_
      · intro K hK
        rw [if_pos (by rfl)]
        try go_simp
        go_at_call 35
        refine (units_any 1492 _).mono ?_
        rintro e W3 ⟨rfl, bA⟩
        have HR := Lib.hid (HR.out.below bA)
        have HB := Lib.hid (HB.out.trans (bA.mono HB.out.size))
        have HSv : (fun Y : World => Y.cell? ⟨w.heap.size, 0, none⟩ = some (.int .i64 c.mru) ∧ Y.cell? ⟨w.heap.size, 1, none⟩ = some (.int .i64 c.auth) ∧ Y.cell? ⟨w.heap.size, 2, none⟩ = some (.int .i64 c.magic) ∧ Y.cell? ⟨w.heap.size, 3, none⟩ = some (.int .i64 c.echo) ∧ Y.cell? ⟨w.heap.size, 4, none⟩ = some (.int .i64 c.cf) ∧ Y.cell? ⟨w.heap.size, 5, none⟩ = some (.int .i64 c.tm) ∧ Y.cell? ⟨w.heap.size, 6, none⟩ = some (.int .i64 c.fl) ∧ Y.cell? ⟨w.heap.size, 7, none⟩ = some (.int .i64 c.wt)) W3 := HS.out _ HB.out
        refine hK _ _ (fun _ => HSv) ?_
        try simp only [Act.put, List.setIfInBounds_toArray, List.set_cons_zero, List.set_cons_succ]
        clear bA
        refine wpAnyH_2 3 5 rfl rfl (by kernel_rfl) ?_ ?_
        · intro K hK
          rw [if_pos (by rfl)]
          try go_simp
          go_at_call 36
          refine (magics_any _).mono ?_
          rintro e W4 ⟨rfl, bA⟩
          have HR := Lib.hid (HR.out.below bA)
          have HB := Lib.hid (HB.out.trans (bA.mono HB.out.size))
          have HSv : (fun Y : World => Y.cell? ⟨w.heap.size, 0, none⟩ = some (.int .i64 c.mru) ∧ Y.cell? ⟨w.heap.size, 1, none⟩ = some (.int .i64 c.auth) ∧ Y.cell? ⟨w.heap.size, 2, none⟩ = some (.int .i64 c.magic) ∧ Y.cell? ⟨w.heap.size, 3, none⟩ = some (.int .i64 c.echo) ∧ Y.cell? ⟨w.heap.size, 4, none⟩ = some (.int .i64 c.cf) ∧ Y.cell? ⟨w.heap.size, 5, none⟩ = some (.int .i64 c.tm) ∧ Y.cell? ⟨w.heap.size, 6, none⟩ = some (.int .i64 c.fl) ∧ Y.cell? ⟨w.heap.size, 7, none⟩ = some (.int .i64 c.wt)) W4 := HS.out _ HB.out
          refine hK _ _ (fun _ => HSv) ?_
          try simp only [Act.put, List.setIfInBounds_toArray, List.set_cons_zero, List.set_cons_succ]
          clear bA
          refine wpAnyH_2 4 5 rfl rfl (by kernel_rfl) ?_ ?_
          · intro K hK
            rw [if_pos (by rfl)]
            try go_simp
            have bA : Below W4.heap.size W4 (W4.alloc (.cells #[.int .i64 1, .int .i64 2, .int .i64 64, .int .i64 1492, .string (be2 1492), .int .i64 5, .int .i64 4, .int .i64 1, .int .i64 4294967295, .string (be4 1)] 73 (0, 0))) := (Below.refl _ _).alloc (Nat.le_refl _) _
            have hz := at1 W4 (.cells #[.int .i64 1, .int .i64 2, .int .i64 64, .int .i64 1492, .string (be2 1492), .int .i64 5, .int .i64 4, .int .i64 1, .int .i64 4294967295, .string (be4 1)] 73 (0, 0))
            generalize hW5 : W4.alloc (.cells #[.int .i64 1, .int .i64 2, .int .i64 64, .int .i64 1492, .string (be2 1492), .int .i64 5, .int .i64 4, .int .i64 1, .int .i64 4294967295, .string (be4 1)] 73 (0, 0)) = W5 at bA hz ⊢
            obtain ⟨rb, hrb⟩ : ∃ rb, rb = W4.heap.size := ⟨_, rfl⟩
            rw [← hrb] at hz ⊢
            have HRu := Lib.hid hz
            have HR := Lib.hid (HR.out.below bA)
            have HB := Lib.hid (HB.out.trans (bA.mono HB.out.size))
            have HSv : (fun Y : World => Y.cell? ⟨w.heap.size, 0, none⟩ = some (.int .i64 c.mru) ∧ Y.cell? ⟨w.heap.size, 1, none⟩ = some (.int .i64 c.auth) ∧ Y.cell? ⟨w.heap.size, 2, none⟩ = some (.int .i64 c.magic) ∧ Y.cell? ⟨w.heap.size, 3, none⟩ = some (.int .i64 c.echo) ∧ Y.cell? ⟨w.heap.size, 4, none⟩ = some (.int .i64 c.cf) ∧ Y.cell? ⟨w.heap.size, 5, none⟩ = some (.int .i64 c.tm) ∧ Y.cell? ⟨w.heap.size, 6, none⟩ = some (.int .i64 c.fl) ∧ Y.cell? ⟨w.heap.size, 7, none⟩ = some (.int .i64 c.wt)) W5 := HS.out _ HB.out
            refine hK _ _ (fun _ => HSv) ?_
            try simp only [Act.put, List.setIfInBounds_toArray, List.set_cons_zero, List.set_cons_succ]
            clear bA hz hW5 hrb
            refine wpAnyH_1 5 rfl (by kernel_rfl) ?_
            intro K hK
            rw [if_pos (by rfl)]
            try go_simp
            have bA : Below W5.heap.size W5 (W5.alloc (.cells #[.int .i64 3] 3 (0, 0))) := (Below.refl _ _).alloc (Nat.le_refl _) _
            have hz := at1 W5 (.cells #[.int .i64 3] 3 (0, 0))
            generalize hW6 : W5.alloc (.cells #[.int .i64 3] 3 (0, 0)) = W6 at bA hz ⊢
            obtain ⟨ib, hib⟩ : ∃ ib, ib = W5.heap.size := ⟨_, rfl⟩
            rw [← hib] at hz ⊢
            have HI := Lib.hid hz
            have HR := Lib.hid (HR.out.below bA)
            have HRu := Lib.hid ((bA.block _ (Array.getElem?_eq_some_iff.1 HRu.out).1).trans HRu.out)
            have HB := Lib.hid (HB.out.trans (bA.mono HB.out.size))
            have HSv : (fun Y : World => Y.cell? ⟨w.heap.size, 0, none⟩ = some (.int .i64 c.mru) ∧ Y.cell? ⟨w.heap.size, 1, none⟩ = some (.int .i64 c.auth) ∧ Y.cell? ⟨w.heap.size, 2, none⟩ = some (.int .i64 c.magic) ∧ Y.cell? ⟨w.heap.size, 3, none⟩ = some (.int .i64 c.echo) ∧ Y.cell? ⟨w.heap.size, 4, none⟩ = some (.int .i64 c.cf) ∧ Y.cell? ⟨w.heap.size, 5, none⟩ = some (.int .i64 c.tm) ∧ Y.cell? ⟨w.heap.size, 6, none⟩ = some (.int .i64 c.fl) ∧ Y.cell? ⟨w.heap.size, 7, none⟩ = some (.int .i64 c.wt)) W6 := HS.out _ HB.out
            refine hK _ _ (fun _ => HSv) ?_
            try simp only [Act.put, List.setIfInBounds_toArray, List.set_cons_zero, List.set_cons_succ]
            clear bA hz hW6 hib
            refine wpAnyH_at 14 (v := ?vv76) rfl (by kernel_rfl) (by kernel_rfl) (by kernel_rfl) (fun _ _ _ h => h) ?hy76 HSv ?hh76
            case hy76 =>
              refine Or.inl ⟨by rfl, ?_⟩
              intro W hW
              obtain ⟨h0, h1, h2, h3, h4, h5, h6, h7⟩ := hW
              go_simp
              try with_reducible rfl
            simp only [Act.put, List.setIfInBounds_toArray, List.set_cons_zero, List.set_cons_succ]
            refine wpAnyH_1 17 rfl (by kernel_rfl) ?_
            intro K hK
            rw [if_pos (by rfl)]
            try go_simp
            go_at_call 34
            refine (HNN.out lb W6 sA _ cA rb ib).mono ?_
            rintro e wE ⟨rfl, bE⟩
            have HN := Lib.hid (HB.out.trans (bE.mono HB.out.size))
            have HSv : (fun Y : World => Y.cell? ⟨w.heap.size, 0, none⟩ = some (.int .i64 c.mru) ∧ Y.cell? ⟨w.heap.size, 1, none⟩ = some (.int .i64 c.auth) ∧ Y.cell? ⟨w.heap.size, 2, none⟩ = some (.int .i64 c.magic) ∧ Y.cell? ⟨w.heap.size, 3, none⟩ = some (.int .i64 c.echo) ∧ Y.cell? ⟨w.heap.size, 4, none⟩ = some (.int .i64 c.cf) ∧ Y.cell? ⟨w.heap.size, 5, none⟩ = some (.int .i64 c.tm) ∧ Y.cell? ⟨w.heap.size, 6, none⟩ = some (.int .i64 c.fl) ∧ Y.cell? ⟨w.heap.size, 7, none⟩ = some (.int .i64 c.wt)) wE := HS.out _ HN.out
            clear bE
            refine hK _ _ (fun _ => HSv) ?_
            try simp only [Act.put, List.setIfInBounds_toArray, List.set_cons_zero, List.set_cons_succ]
            refine wpAnyH_at 18 (v := ?vv77) rfl (by kernel_rfl) (by kernel_rfl) (by kernel_rfl) (fun _ _ _ h => h) ?hy77 HSv ?hh77
            case hy77 =>
              refine Or.inl ⟨by rfl, ?_⟩
              intro W hW
              obtain ⟨h0, h1, h2, h3, h4, h5, h6, h7⟩ := hW
              go_simp
              try with_reducible rfl
            simp only [Act.put, List.setIfInBounds_toArray, List.set_cons_zero, List.set_cons_succ]
            refine wpAnyH_at 19 (v := ?vv78) rfl (by kernel_rfl) (by kernel_rfl) (by kernel_rfl) (fun _ _ _ h => h) ?hy78 HSv ?hh78
            case hy78 =>
              refine Or.inl ⟨by rfl, ?_⟩
              intro W hW
              obtain ⟨h0, h1, h2, h3, h4, h5, h6, h7⟩ := hW
              go_simp
              try with_reducible rfl
            simp only [Act.put, List.setIfInBounds_toArray, List.set_cons_zero, List.set_cons_succ]
            refine wpAnyH_at 21 (v := ?vv79) rfl (by kernel_rfl) (by kernel_rfl) (by kernel_rfl) (fun _ _ _ h => h) ?hy79 HSv ?hh79
            case hy79 =>
              refine Or.inl ⟨by rfl, ?_⟩
              intro W hW
              obtain ⟨h0, h1, h2, h3, h4, h5, h6, h7⟩ := hW
              go_simp
              try with_reducible rfl
            simp only [Act.put, List.setIfInBounds_toArray, List.set_cons_zero, List.set_cons_succ]
            refine wpAnyH_at 20 (v := ?vv80) rfl (by kernel_rfl) (by kernel_rfl) (by kernel_rfl) (fun _ _ _ h => h) ?hy80 HSv ?hh80
            case hy80 =>
              refine Or.inl ⟨by rfl, ?_⟩
              intro W hW
              obtain ⟨h0, h1, h2, h3, h4, h5, h6, h7⟩ := hW
              go_simp
              try with_reducible rfl
            simp only [Act.put, List.setIfInBounds_toArray, List.set_cons_zero, List.set_cons_succ]
            refine wpAnyH_at 22 (v := ?vv81) rfl (by kernel_rfl) (by kernel_rfl) (by kernel_rfl) (fun _ _ _ h => h) ?hy81 HSv ?hh81
            case hy81 =>
              refine Or.inl ⟨by rfl, ?_⟩
              intro W hW
              obtain ⟨h0, h1, h2, h3, h4, h5, h6, h7⟩ := hW
              go_simp
              try with_reducible rfl
            simp only [Act.put, List.setIfInBounds_toArray, List.set_cons_zero, List.set_cons_succ]
            refine wpAnyH_end 23 (fun j hj => rgH_end _ _ j (by omega)) (by rfl) (by kernel_rfl) ?_
            simp only [List.drop_succ_cons, List.drop_zero]
            clear HSv
            go_wp2_with fail
            go_ret2
            exact ⟨rfl, HZ.out.2.2.1.trans (HN.out.mono HZ.out.2.2.1.size)⟩
          · intro K hK
            rw [if_pos (by rfl)]
            try go_simp
            have bA : Below W4.heap.size W4 (W4.alloc (.cells #[.int .i64 3] 3 (0, 0))) := (Below.refl _ _).alloc (Nat.le_refl _) _
            have hz := at1 W4 (.cells #[.int .i64 3] 3 (0, 0))
            generalize hW5 : W4.alloc (.cells #[.int .i64 3] 3 (0, 0)) = W5 at bA hz ⊢
            obtain ⟨ib, hib⟩ : ∃ ib, ib = W4.heap.size := ⟨_, rfl⟩
            rw [← hib] at hz ⊢
            have HI := Lib.hid hz
            have HR := Lib.hid (HR.out.below bA)
            have HB := Lib.hid (HB.out.trans (bA.mono HB.out.size))
            have HSv : (fun Y : World => Y.cell? ⟨w.heap.size, 0, none⟩ = some (.int .i64 c.mru) ∧ Y.cell? ⟨w.heap.size, 1, none⟩ = some (.int .i64 c.auth) ∧ Y.cell? ⟨w.heap.size, 2, none⟩ = some (.int .i64 c.magic) ∧ Y.cell? ⟨w.heap.size, 3, none⟩ = some (.int .i64 c.echo) ∧ Y.cell? ⟨w.heap.size, 4, none⟩ = some (.int .i64 c.cf) ∧ Y.cell? ⟨w.heap.size, 5, none⟩ = some (.int .i64 c.tm) ∧ Y.cell? ⟨w.heap.size, 6, none⟩ = some (.int .i64 c.fl) ∧ Y.cell? ⟨w.heap.size, 7, none⟩ = some (.int .i64 c.wt)) W5 := HS.out _ HB.out
            refine hK _ _ (fun _ => HSv) ?_
            try simp only [Act.put, List.setIfInBounds_toArray, List.set_cons_zero, List.set_cons_succ]
            clear bA hz hW5 hib
            refine wpAnyH_1 4 rfl (by kernel_rfl) ?_
            intro K hK
            rw [if_pos (by rfl)]
            try go_simp
            have bA : Below W5.heap.size W5 (W5.alloc (.cells #[.int .i64 1, .int .i64 2, .int .i64 64, .int .i64 1492, .string (be2 1492), .int .i64 5, .int .i64 4, .int .i64 1, .int .i64 4294967295, .string (be4 1)] 73 (0, 0))) := (Below.refl _ _).alloc (Nat.le_refl _) _
            have hz := at1 W5 (.cells #[.int .i64 1, .int .i64 2, .int .i64 64, .int .i64 1492, .string (be2 1492), .int .i64 5, .int .i64 4, .int .i64 1, .int .i64 4294967295, .string (be4 1)] 73 (0, 0))
            generalize hW6 : W5.alloc (.cells #[.int .i64 1, .int .i64 2, .int .i64 64, .int .i64 1492, .string (be2 1492), .int .i64 5, .int .i64 4, .int .i64 1, .int .i64 4294967295, .string (be4 1)] 73 (0, 0)) = W6 at bA hz ⊢
            obtain ⟨rb, hrb⟩ : ∃ rb, rb = W5.heap.size := ⟨_, rfl⟩
            rw [← hrb] at hz ⊢
            have HRu := Lib.hid hz
            have HR := Lib.hid (HR.out.below bA)
            have HB := Lib.hid (HB.out.trans (bA.mono HB.out.size))
            have HSv : (fun Y : World => Y.cell? ⟨w.heap.size, 0, none⟩ = some (.int .i64 c.mru) ∧ Y.cell? ⟨w.heap.size, 1, none⟩ = some (.int .i64 c.auth) ∧ Y.cell? ⟨w.heap.size, 2, none⟩ = some (.int .i64 c.magic) ∧ Y.cell? ⟨w.heap.size, 3, none⟩ = some (.int .i64 c.echo) ∧ Y.cell? ⟨w.heap.size, 4, none⟩ = some (.int .i64 c.cf) ∧ Y.cell? ⟨w.heap.size, 5, none⟩ = some (.int .i64 c.tm) ∧ Y.cell? ⟨w.heap.size, 6, none⟩ = some (.int .i64 c.fl) ∧ Y.cell? ⟨w.heap.size, 7, none⟩ = some (.int .i64 c.wt)) W6 := HS.out _ HB.out
            have HI := Lib.hid ((bA.block _ (Array.getElem?_eq_some_iff.1 HI.out).1).trans HI.out)
            refine hK _ _ (fun _ => HSv) ?_
            try simp only [Act.put, List.setIfInBounds_toArray, List.set_cons_zero, List.set_cons_succ]
            clear bA hz hW6 hrb
            refine wpAnyH_at 14 (v := ?vv82) rfl (by kernel_rfl) (by kernel_rfl) (by kernel_rfl) (fun _ _ _ h => h) ?hy82 HSv ?hh82
            case hy82 =>
              refine Or.inl ⟨by rfl, ?_⟩
              intro W hW
              obtain ⟨h0, h1, h2, h3, h4, h5, h6, h7⟩ := hW
              go_simp
              try with_reducible rfl
            simp only [Act.put, List.setIfInBounds_toArray, List.set_cons_zero, List.set_cons_succ]
            refine wpAnyH_1 17 rfl (by kernel_rfl) ?_
            intro K hK
            rw [if_pos (by rfl)]
            try go_simp
            go_at_call 34
            refine (HNN.out lb W6 sA _ cA rb ib).mono ?_
            rintro e wE ⟨rfl, bE⟩
            have HN := Lib.hid (HB.out.trans (bE.mono HB.out.size))
            have HSv : (fun Y : World => Y.cell? ⟨w.heap.size, 0, none⟩ = some (.int .i64 c.mru) ∧ Y.cell? ⟨w.heap.size, 1, none⟩ = some (.int .i64 c.auth) ∧ Y.cell? ⟨w.heap.size, 2, none⟩ = some (.int .i64 c.magic) ∧ Y.cell? ⟨w.heap.size, 3, none⟩ = some (.int .i64 c.echo) ∧ Y.cell? ⟨w.heap.size, 4, none⟩ = some (.int .i64 c.cf) ∧ Y.cell? ⟨w.heap.size, 5, none⟩ = some (.int .i64 c.tm) ∧ Y.cell? ⟨w.heap.size, 6, none⟩ = some (.int .i64 c.fl) ∧ Y.cell? ⟨w.heap.size, 7, none⟩ = some (.int .i64 c.wt)) wE := HS.out _ HN.out
            clear bE
            refine hK _ _ (fun _ => HSv) ?_
            try simp only [Act.put, List.setIfInBounds_toArray, List.set_cons_zero, List.set_cons_succ]
            refine wpAnyH_at 18 (v := ?vv83) rfl (by kernel_rfl) (by kernel_rfl) (by kernel_rfl) (fun _ _ _ h => h) ?hy83 HSv ?hh83
            case hy83 =>
              refine Or.inl ⟨by rfl, ?_⟩
              intro W hW
              obtain ⟨h0, h1, h2, h3, h4, h5, h6, h7⟩ := hW
              go_simp
              try with_reducible rfl
            simp only [Act.put, List.setIfInBounds_toArray, List.set_cons_zero, List.set_cons_succ]
            refine wpAnyH_at 19 (v := ?vv84) rfl (by kernel_rfl) (by kernel_rfl) (by kernel_rfl) (fun _ _ _ h => h) ?hy84 HSv ?hh84
            case hy84 =>
              refine Or.inl ⟨by rfl, ?_⟩
              intro W hW
              obtain ⟨h0, h1, h2, h3, h4, h5, h6, h7⟩ := hW
              go_simp
              try with_reducible rfl
            simp only [Act.put, List.setIfInBounds_toArray, List.set_cons_zero, List.set_cons_succ]
            refine wpAnyH_at 21 (v := ?vv85) rfl (by kernel_rfl) (by kernel_rfl) (by kernel_rfl) (fun _ _ _ h => h) ?hy85 HSv ?hh85
            case hy85 =>
              refine Or.inl ⟨by rfl, ?_⟩
              intro W hW
              obtain ⟨h0, h1, h2, h3, h4, h5, h6, h7⟩ := hW
              go_simp
              try with_reducible rfl
            simp only [Act.put, List.setIfInBounds_toArray, List.set_cons_zero, List.set_cons_succ]
            refine wpAnyH_at 20 (v := ?vv86) rfl (by kernel_rfl) (by kernel_rfl) (by kernel_rfl) (fun _ _ _ h => h) ?hy86 HSv ?hh86
            case hy86 =>
              refine Or.inl ⟨by rfl, ?_⟩
              intro W hW
              obtain ⟨h0, h1, h2, h3, h4, h5, h6, h7⟩ := hW
              go_simp
              try with_reducible rfl
            simp only [Act.put, List.setIfInBounds_toArray, List.set_cons_zero, List.set_cons_succ]
            refine wpAnyH_at 22 (v := ?vv87) rfl (by kernel_rfl) (by kernel_rfl) (by kernel_rfl) (fun _ _ _ h => h) ?hy87 HSv ?hh87
            case hy87 =>
              refine Or.inl ⟨by rfl, ?_⟩
              intro W hW
              obtain ⟨h0, h1, h2, h3, h4, h5, h6, h7⟩ := hW
              go_simp
              try with_reducible rfl
            simp only [Act.put, List.setIfInBounds_toArray, List.set_cons_zero, List.set_cons_succ]
            refine wpAnyH_end 23 (fun j hj => rgH_end _ _ j (by omega)) (by rfl) (by kernel_rfl) ?_
            simp only [List.drop_succ_cons, List.drop_zero]
            clear HSv
            go_wp2_with fail
            go_ret2
            exact ⟨rfl, HZ.out.2.2.1.trans (HN.out.mono HZ.out.2.2.1.size)⟩
        · intro K hK
          rw [if_pos (by rfl)]
          try go_simp
          have bA : Below W3.heap.size W3 (W3.alloc (.cells #[.int .i64 3] 3 (0, 0))) := (Below.refl _ _).alloc (Nat.le_refl _) _
          have hz := at1 W3 (.cells #[.int .i64 3] 3 (0, 0))
          generalize hW4 : W3.alloc (.cells #[.int .i64 3] 3 (0, 0)) = W4 at bA hz ⊢
          obtain ⟨ib, hib⟩ : ∃ ib, ib = W3.heap.size := ⟨_, rfl⟩
          rw [← hib] at hz ⊢
          have HI := Lib.hid hz
          have HR := Lib.hid (HR.out.below bA)
          have HB := Lib.hid (HB.out.trans (bA.mono HB.out.size))
          have HSv : (fun Y : World => Y.cell? ⟨w.heap.size, 0, none⟩ = some (.int .i64 c.mru) ∧ Y.cell? ⟨w.heap.size, 1, none⟩ = some (.int .i64 c.auth) ∧ Y.cell? ⟨w.heap.size, 2, none⟩ = some (.int .i64 c.magic) ∧ Y.cell? ⟨w.heap.size, 3, none⟩ = some (.int .i64 c.echo) ∧ Y.cell? ⟨w.heap.size, 4, none⟩ = some (.int .i64 c.cf) ∧ Y.cell? ⟨w.heap.size, 5, none⟩ = some (.int .i64 c.tm) ∧ Y.cell? ⟨w.heap.size, 6, none⟩ = some (.int .i64 c.fl) ∧ Y.cell? ⟨w.heap.size, 7, none⟩ = some (.int .i64 c.wt)) W4 := HS.out _ HB.out
          refine hK _ _ (fun _ => HSv) ?_
          try simp only [Act.put, List.setIfInBounds_toArray, List.set_cons_zero, List.set_cons_succ]
          clear bA hz hW4 hib
          refine wpAnyH_1 3 rfl (by kernel_rfl) ?_
          intro K hK
          rw [if_pos (by rfl)]
          try go_simp
          go_at_call 36
          refine (magics_any _).mono ?_
          rintro e W5 ⟨rfl, bA⟩
          have HR := Lib.hid (HR.out.below bA)
          have HB := Lib.hid (HB.out.trans (bA.mono HB.out.size))
          have HSv : (fun Y : World => Y.cell? ⟨w.heap.size, 0, none⟩ = some (.int .i64 c.mru) ∧ Y.cell? ⟨w.heap.size, 1, none⟩ = some (.int .i64 c.auth) ∧ Y.cell? ⟨w.heap.size, 2, none⟩ = some (.int .i64 c.magic) ∧ Y.cell? ⟨w.heap.size, 3, none⟩ = some (.int .i64 c.echo) ∧ Y.cell? ⟨w.heap.size, 4, none⟩ = some (.int .i64 c.cf) ∧ Y.cell? ⟨w.heap.size, 5, none⟩ = some (.int .i64 c.tm) ∧ Y.cell? ⟨w.heap.size, 6, none⟩ = some (.int .i64 c.fl) ∧ Y.cell? ⟨w.heap.size, 7, none⟩ = some (.int .i64 c.wt)) W5 := HS.out _ HB.out
          have HI := Lib.hid ((bA.block _ (Array.getElem?_eq_some_iff.1 HI.out).1).trans HI.out)
          refine hK _ _ (fun _ => HSv) ?_
          try simp only [Act.put, List.setIfInBounds_toArray, List.set_cons_zero, List.set_cons_succ]
          clear bA
          refine wpAnyH_1 4 rfl (by kernel_rfl) ?_
          intro K hK
          rw [if_pos (by rfl)]
          try go_simp
          have bA : Below W5.heap.size W5 (W5.alloc (.cells #[.int .i64 1, .int .i64 2, .int .i64 64, .int .i64 1492, .string (be2 1492), .int .i64 5, .int .i64 4, .int .i64 1, .int .i64 4294967295, .string (be4 1)] 73 (0, 0))) := (Below.refl _ _).alloc (Nat.le_refl _) _
          have hz := at1 W5 (.cells #[.int .i64 1, .int .i64 2, .int .i64 64, .int .i64 1492, .string (be2 1492), .int .i64 5, .int .i64 4, .int .i64 1, .int .i64 4294967295, .string (be4 1)] 73 (0, 0))
          generalize hW6 : W5.alloc (.cells #[.int .i64 1, .int .i64 2, .int .i64 64, .int .i64 1492, .string (be2 1492), .int .i64 5, .int .i64 4, .int .i64 1, .int .i64 4294967295, .string (be4 1)] 73 (0, 0)) = W6 at bA hz ⊢
          obtain ⟨rb, hrb⟩ : ∃ rb, rb = W5.heap.size := ⟨_, rfl⟩
          rw [← hrb] at hz ⊢
          have HRu := Lib.hid hz
          have HR := Lib.hid (HR.out.below bA)
          have HB := Lib.hid (HB.out.trans (bA.mono HB.out.size))
          have HSv : (fun Y : World => Y.cell? ⟨w.heap.size, 0, none⟩ = some (.int .i64 c.mru) ∧ Y.cell? ⟨w.heap.size, 1, none⟩ = some (.int .i64 c.auth) ∧ Y.cell? ⟨w.heap.size, 2, none⟩ = some (.int .i64 c.magic) ∧ Y.cell? ⟨w.heap.size, 3, none⟩ = some (.int .i64 c.echo) ∧ Y.cell? ⟨w.heap.size, 4, none⟩ = some (.int .i64 c.cf) ∧ Y.cell? ⟨w.heap.size, 5, none⟩ = some (.int .i64 c.tm) ∧ Y.cell? ⟨w.heap.size, 6, none⟩ = some (.int .i64 c.fl) ∧ Y.cell? ⟨w.heap.size, 7, none⟩ = some (.int .i64 c.wt)) W6 := HS.out _ HB.out
          have HI := Lib.hid ((bA.block _ (Array.getElem?_eq_some_iff.1 HI.out).1).trans HI.out)
          refine hK _ _ (fun _ => HSv) ?_
          try simp only [Act.put, List.setIfInBounds_toArray, List.set_cons_zero, List.set_cons_succ]
          clear bA hz hW6 hrb
          refine wpAnyH_at 14 (v := ?vv88) rfl (by kernel_rfl) (by kernel_rfl) (by kernel_rfl) (fun _ _ _ h => h) ?hy88 HSv ?hh88
          case hy88 =>
            refine Or.inl ⟨by rfl, ?_⟩
            intro W hW
            obtain ⟨h0, h1, h2, h3, h4, h5, h6, h7⟩ := hW
            go_simp
            try with_reducible rfl
          simp only [Act.put, List.setIfInBounds_toArray, List.set_cons_zero, List.set_cons_succ]
          refine wpAnyH_1 17 rfl (by kernel_rfl) ?_
          intro K hK
          rw [if_pos (by rfl)]
          try go_simp
          go_at_call 34
          refine (HNN.out lb W6 sA _ cA rb ib).mono ?_
          rintro e wE ⟨rfl, bE⟩
          have HN := Lib.hid (HB.out.trans (bE.mono HB.out.size))
          have HSv : (fun Y : World => Y.cell? ⟨w.heap.size, 0, none⟩ = some (.int .i64 c.mru) ∧ Y.cell? ⟨w.heap.size, 1, none⟩ = some (.int .i64 c.auth) ∧ Y.cell? ⟨w.heap.size, 2, none⟩ = some (.int .i64 c.magic) ∧ Y.cell? ⟨w.heap.size, 3, none⟩ = some (.int .i64 c.echo) ∧ Y.cell? ⟨w.heap.size, 4, none⟩ = some (.int .i64 c.cf) ∧ Y.cell? ⟨w.heap.size, 5, none⟩ = some (.int .i64 c.tm) ∧ Y.cell? ⟨w.heap.size, 6, none⟩ = some (.int .i64 c.fl) ∧ Y.cell? ⟨w.heap.size, 7, none⟩ = some (.int .i64 c.wt)) wE := HS.out _ HN.out
          clear bE
          refine hK _ _ (fun _ => HSv) ?_
          try simp only [Act.put, List.setIfInBounds_toArray, List.set_cons_zero, List.set_cons_succ]
          refine wpAnyH_at 18 (v := ?vv89) rfl (by kernel_rfl) (by kernel_rfl) (by kernel_rfl) (fun _ _ _ h => h) ?hy89 HSv ?hh89
          case hy89 =>
            refine Or.inl ⟨by rfl, ?_⟩
            intro W hW
            obtain ⟨h0, h1, h2, h3, h4, h5, h6, h7⟩ := hW
            go_simp
            try with_reducible rfl
          simp only [Act.put, List.setIfInBounds_toArray, List.set_cons_zero, List.set_cons_succ]
          refine wpAnyH_at 19 (v := ?vv90) rfl (by kernel_rfl) (by kernel_rfl) (by kernel_rfl) (fun _ _ _ h => h) ?hy90 HSv ?hh90
          case hy90 =>
            refine Or.inl ⟨by rfl, ?_⟩
            intro W hW
            obtain ⟨h0, h1, h2, h3, h4, h5, h6, h7⟩ := hW
            go_simp
            try with_reducible rfl
          simp only [Act.put, List.setIfInBounds_toArray, List.set_cons_zero, List.set_cons_succ]
          refine wpAnyH_at 21 (v := ?vv91) rfl (by kernel_rfl) (by kernel_rfl) (by kernel_rfl) (fun _ _ _ h => h) ?hy91 HSv ?hh91
          case hy91 =>
            refine Or.inl ⟨by rfl, ?_⟩
            intro W hW
            obtain ⟨h0, h1, h2, h3, h4, h5, h6, h7⟩ := hW
            go_simp
            try with_reducible rfl
          simp only [Act.put, List.setIfInBounds_toArray, List.set_cons_zero, List.set_cons_succ]
          refine wpAnyH_at 20 (v := ?vv92) rfl (by kernel_rfl) (by kernel_rfl) (by kernel_rfl) (fun _ _ _ h => h) ?hy92 HSv ?hh92
          case hy92 =>
            refine Or.inl ⟨by rfl, ?_⟩
            intro W hW
            obtain ⟨h0, h1, h2, h3, h4, h5, h6, h7⟩ := hW
            go_simp
            try with_reducible rfl
          simp only [Act.put, List.setIfInBounds_toArray, List.set_cons_zero, List.set_cons_succ]
          refine wpAnyH_at 22 (v := ?vv93) rfl (by kernel_rfl) (by kernel_rfl) (by kernel_rfl) (fun _ _ _ h => h) ?hy93 HSv ?hh93
          case hy93 =>
            refine Or.inl ⟨by rfl, ?_⟩
            intro W hW
            obtain ⟨h0, h1, h2, h3, h4, h5, h6, h7⟩ := hW
            go_simp
            try with_reducible rfl
          simp only [Act.put, List.setIfInBounds_toArray, List.set_cons_zero, List.set_cons_succ]
          refine wpAnyH_end 23 (fun j hj => rgH_end _ _ j (by omega)) (by rfl) (by kernel_rfl) ?_
          simp only [List.drop_succ_cons, List.drop_zero]
          clear HSv
          go_wp2_with fail
          go_ret2
          exact ⟨rfl, HZ.out.2.2.1.trans (HN.out.mono HZ.out.2.2.1.size)⟩
      · intro K hK
        rw [if_pos (by rfl)]
        try go_simp
        have bA : Below W2.heap.size W2 (W2.alloc (.cells #[.int .i64 3] 3 (0, 0))) := (Below.refl _ _).alloc (Nat.le_refl _) _
        have hz := at1 W2 (.cells #[.int .i64 3] 3 (0, 0))
        generalize hW3 : W2.alloc (.cells #[.int .i64 3] 3 (0, 0)) = W3 at bA hz ⊢
        obtain ⟨ib, hib⟩ : ∃ ib, ib = W2.heap.size := ⟨_, rfl⟩
        rw [← hib] at hz ⊢
        have HI := Lib.hid hz
        have HR := Lib.hid (HR.out.below bA)
        have HB := Lib.hid (HB.out.trans (bA.mono HB.out.size))
        have HSv : (fun Y : World => Y.cell? ⟨w.heap.size, 0, none⟩ = some (.int .i64 c.mru) ∧ Y.cell? ⟨w.heap.size, 1, none⟩ = some (.int .i64 c.auth) ∧ Y.cell? ⟨w.heap.size, 2, none⟩ = some (.int .i64 c.magic) ∧ Y.cell? ⟨w.heap.size, 3, none⟩ = some (.int .i64 c.echo) ∧ Y.cell? ⟨w.heap.size, 4, none⟩ = some (.int .i64 c.cf) ∧ Y.cell? ⟨w.heap.size, 5, none⟩ = some (.int .i64 c.tm) ∧ Y.cell? ⟨w.heap.size, 6, none⟩ = some (.int .i64 c.fl) ∧ Y.cell? ⟨w.heap.size, 7, none⟩ = some (.int .i64 c.wt)) W3 := HS.out _ HB.out
        refine hK _ _ (fun _ => HSv) ?_
        try simp only [Act.put, List.setIfInBounds_toArray, List.set_cons_zero, List.set_cons_succ]
        clear bA hz hW3 hib
        refine wpAnyH_1 2 rfl (by kernel_rfl) ?_
        intro K hK
        rw [if_pos (by rfl)]
        try go_simp
        go_at_call 35
        refine (units_any 1492 _).mono ?_
        rintro e W4 ⟨rfl, bA⟩
        have HR := Lib.hid (HR.out.below bA)
        have HB := Lib.hid (HB.out.trans (bA.mono HB.out.size))
        have HSv : (fun Y : World => Y.cell? ⟨w.heap.size, 0, none⟩ = some (.int .i64 c.mru) ∧ Y.cell? ⟨w.heap.size, 1, none⟩ = some (.int .i64 c.auth) ∧ Y.cell? ⟨w.heap.size, 2, none⟩ = some (.int .i64 c.magic) ∧ Y.cell? ⟨w.heap.size, 3, none⟩ = some (.int .i64 c.echo) ∧ Y.cell? ⟨w.heap.size, 4, none⟩ = some (.int .i64 c.cf) ∧ Y.cell? ⟨w.heap.size, 5, none⟩ = some (.int .i64 c.tm) ∧ Y.cell? ⟨w.heap.size, 6, none⟩ = some (.int .i64 c.fl) ∧ Y.cell? ⟨w.heap.size, 7, none⟩ = some (.int .i64 c.wt)) W4 := HS.out _ HB.out
        have HI := Lib.hid ((bA.block _ (Array.getElem?_eq_some_iff.1 HI.out).1).trans HI.out)
        refine hK _ _ (fun _ => HSv) ?_
        try simp only [Act.put, List.setIfInBounds_toArray, List.set_cons_zero, List.set_cons_succ]
        clear bA
        refine wpAnyH_1 3 rfl (by kernel_rfl) ?_
        intro K hK
        rw [if_pos (by rfl)]
        try go_simp
        go_at_call 36
        refine (magics_any _).mono ?_
        rintro e W5 ⟨rfl, bA⟩
        have HR := Lib.hid (HR.out.below bA)
        have HB := Lib.hid (HB.out.trans (bA.mono HB.out.size))
        have HSv : (fun Y : World => Y.cell? ⟨w.heap.size, 0, none⟩ = some (.int .i64 c.mru) ∧ Y.cell? ⟨w.heap.size, 1, none⟩ = some (.int .i64 c.auth) ∧ Y.cell? ⟨w.heap.size, 2, none⟩ = some (.int .i64 c.magic) ∧ Y.cell? ⟨w.heap.size, 3, none⟩ = some (.int .i64 c.echo) ∧ Y.cell? ⟨w.heap.size, 4, none⟩ = some (.int .i64 c.cf) ∧ Y.cell? ⟨w.heap.size, 5, none⟩ = some (.int .i64 c.tm) ∧ Y.cell? ⟨w.heap.size, 6, none⟩ = some (.int .i64 c.fl) ∧ Y.cell? ⟨w.heap.size, 7, none⟩ = some (.int .i64 c.wt)) W5 := HS.out _ HB.out
        have HI := Lib.hid ((bA.block _ (Array.getElem?_eq_some_iff.1 HI.out).1).trans HI.out)
        refine hK _ _ (fun _ => HSv) ?_
        try simp only [Act.put, List.setIfInBounds_toArray, List.set_cons_zero, List.set_cons_succ]
        clear bA
        refine wpAnyH_1 4 rfl (by kernel_rfl) ?_
        intro K hK
        rw [if_pos (by rfl)]
        try go_simp
        have bA : Below W5.heap.size W5 (W5.alloc (.cells #[.int .i64 1, .int .i64 2, .int .i64 64, .int .i64 1492, .string (be2 1492), .int .i64 5, .int .i64 4, .int .i64 1, .int .i64 4294967295, .string (be4 1)] 73 (0, 0))) := (Below.refl _ _).alloc (Nat.le_refl _) _
        have hz := at1 W5 (.cells #[.int .i64 1, .int .i64 2, .int .i64 64, .int .i64 1492, .string (be2 1492), .int .i64 5, .int .i64 4, .int .i64 1, .int .i64 4294967295, .string (be4 1)] 73 (0, 0))
        generalize hW6 : W5.alloc (.cells #[.int .i64 1, .int .i64 2, .int .i64 64, .int .i64 1492, .string (be2 1492), .int .i64 5, .int .i64 4, .int .i64 1, .int .i64 4294967295, .string (be4 1)] 73 (0, 0)) = W6 at bA hz ⊢
        obtain ⟨rb, hrb⟩ : ∃ rb, rb = W5.heap.size := ⟨_, rfl⟩
        rw [← hrb] at hz ⊢
        have HRu := Lib.hid hz
        have HR := Lib.hid (HR.out.below bA)
        have HB := Lib.hid (HB.out.trans (bA.mono HB.out.size))
        have HSv : (fun Y : World => Y.cell? ⟨w.heap.size, 0, none⟩ = some (.int .i64 c.mru) ∧ Y.cell? ⟨w.heap.size, 1, none⟩ = some (.int .i64 c.auth) ∧ Y.cell? ⟨w.heap.size, 2, none⟩ = some (.int .i64 c.magic) ∧ Y.cell? ⟨w.heap.size, 3, none⟩ = some (.int .i64 c.echo) ∧ Y.cell? ⟨w.heap.size, 4, none⟩ = some (.int .i64 c.cf) ∧ Y.cell? ⟨w.heap.size, 5, none⟩ = some (.int .i64 c.tm) ∧ Y.cell? ⟨w.heap.size, 6, none⟩ = some (.int .i64 c.fl) ∧ Y.cell? ⟨w.heap.size, 7, none⟩ = some (.int .i64 c.wt)) W6 := HS.out _ HB.out
        have HI := Lib.hid ((bA.block _ (Array.getElem?_eq_some_iff.1 HI.out).1).trans HI.out)
        refine hK _ _ (fun _ => HSv) ?_
        try simp only [Act.put, List.setIfInBounds_toArray, List.set_cons_zero, List.set_cons_succ]
        clear bA hz hW6 hrb
        refine wpAnyH_at 14 (v := ?vv94) rfl (by kernel_rfl) (by kernel_rfl) (by kernel_rfl) (fun _ _ _ h => h) ?hy94 HSv ?hh94
        case hy94 =>
          refine Or.inl ⟨by rfl, ?_⟩
          intro W hW
          obtain ⟨h0, h1, h2, h3, h4, h5, h6, h7⟩ := hW
          go_simp
          try with_reducible rfl
        simp only [Act.put, List.setIfInBounds_toArray, List.set_cons_zero, List.set_cons_succ]
        refine wpAnyH_1 17 rfl (by kernel_rfl) ?_
        intro K hK
        rw [if_pos (by rfl)]
        try go_simp
        go_at_call 34
        refine (HNN.out lb W6 sA _ cA rb ib).mono ?_
        rintro e wE ⟨rfl, bE⟩
        have HN := Lib.hid (HB.out.trans (bE.mono HB.out.size))
        have HSv : (fun Y : World => Y.cell? ⟨w.heap.size, 0, none⟩ = some (.int .i64 c.mru) ∧ Y.cell? ⟨w.heap.size, 1, none⟩ = some (.int .i64 c.auth) ∧ Y.cell? ⟨w.heap.size, 2, none⟩ = some (.int .i64 c.magic) ∧ Y.cell? ⟨w.heap.size, 3, none⟩ = some (.int .i64 c.echo) ∧ Y.cell? ⟨w.heap.size, 4, none⟩ = some (.int .i64 c.cf) ∧ Y.cell? ⟨w.heap.size, 5, none⟩ = some (.int .i64 c.tm) ∧ Y.cell? ⟨w.heap.size, 6, none⟩ = some (.int .i64 c.fl) ∧ Y.cell? ⟨w.heap.size, 7, none⟩ = some (.int .i64 c.wt)) wE := HS.out _ HN.out
        clear bE
        refine hK _ _ (fun _ => HSv) ?_
        try simp only [Act.put, List.setIfInBounds_toArray, List.set_cons_zero, List.set_cons_succ]
        refine wpAnyH_at 18 (v := ?vv95) rfl (by kernel_rfl) (by kernel_rfl) (by kernel_rfl) (fun _ _ _ h => h) ?hy95 HSv ?hh95
        case hy95 =>
          refine Or.inl ⟨by rfl, ?_⟩
          intro W hW
          obtain ⟨h0, h1, h2, h3, h4, h5, h6, h7⟩ := hW
          go_simp
          try with_reducible rfl
        simp only [Act.put, List.setIfInBounds_toArray, List.set_cons_zero, List.set_cons_succ]
        refine wpAnyH_at 19 (v := ?vv96) rfl (by kernel_rfl) (by kernel_rfl) (by kernel_rfl) (fun _ _ _ h => h) ?hy96 HSv ?hh96
        case hy96 =>
          refine Or.inl ⟨by rfl, ?_⟩
          intro W hW
          obtain ⟨h0, h1, h2, h3, h4, h5, h6, h7⟩ := hW
          go_simp
          try with_reducible rfl
        simp only [Act.put, List.setIfInBounds_toArray, List.set_cons_zero, List.set_cons_succ]
        refine wpAnyH_at 21 (v := ?vv97) rfl (by kernel_rfl) (by kernel_rfl) (by kernel_rfl) (fun _ _ _ h => h) ?hy97 HSv ?hh97
        case hy97 =>
          refine Or.inl ⟨by rfl, ?_⟩
          intro W hW
          obtain ⟨h0, h1, h2, h3, h4, h5, h6, h7⟩ := hW
          go_simp
          try with_reducible rfl
        simp only [Act.put, List.setIfInBounds_toArray, List.set_cons_zero, List.set_cons_succ]
        refine wpAnyH_at 20 (v := ?vv98) rfl (by kernel_rfl) (by kernel_rfl) (by kernel_rfl) (fun _ _ _ h => h) ?hy98 HSv ?hh98
        case hy98 =>
          refine Or.inl ⟨by rfl, ?_⟩
          intro W hW
          obtain ⟨h0, h1, h2, h3, h4, h5, h6, h7⟩ := hW
          go_simp
          try with_reducible rfl
        simp only [Act.put, List.setIfInBounds_toArray, List.set_cons_zero, List.set_cons_succ]
        refine wpAnyH_at 22 (v := ?vv99) rfl (by kernel_rfl) (by kernel_rfl) (by kernel_rfl) (fun _ _ _ h => h) ?hy99 HSv ?hh99
        case hy99 =>
          refine Or.inl ⟨by rfl, ?_⟩
          intro W hW
          obtain ⟨h0, h1, h2, h3, h4, h5, h6, h7⟩ := hW
          go_simp
          try with_reducible rfl
        simp only [Act.put, List.setIfInBounds_toArray, List.set_cons_zero, List.set_cons_succ]
        refine wpAnyH_end 23 (fun j hj => rgH_end _ _ j (by omega)) (by rfl) (by kernel_rfl) ?_
        simp only [List.drop_succ_cons, List.drop_zero]
        clear HSv
        go_wp2_with fail
        go_ret2
        exact ⟨rfl, HZ.out.2.2.1.trans (HN.out.mono HZ.out.2.2.1.size)⟩
    · intro K hK
      rw [if_pos (by rfl)]
      try go_simp
      have bA : Below W.heap.size W (W.alloc (.cells #[.int .i64 3] 3 (0, 0))) := (Below.refl _ _).alloc (Nat.le_refl _) _
      have hz := at1 W (.cells #[.int .i64 3] 3 (0, 0))
      generalize hW2 : W.alloc (.cells #[.int .i64 3] 3 (0, 0)) = W2 at bA hz ⊢
      obtain ⟨ib, hib⟩ : ∃ ib, ib = W.heap.size := ⟨_, rfl⟩
      rw [← hib] at hz ⊢
      have HI := Lib.hid hz
      have HB := Lib.hid (HB.out.trans (bA.mono HB.out.size))
      have HSv : (fun Y : World => Y.cell? ⟨w.heap.size, 0, none⟩ = some (.int .i64 c.mru) ∧ Y.cell? ⟨w.heap.size, 1, none⟩ = some (.int .i64 c.auth) ∧ Y.cell? ⟨w.heap.size, 2, none⟩ = some (.int .i64 c.magic) ∧ Y.cell? ⟨w.heap.size, 3, none⟩ = some (.int .i64 c.echo) ∧ Y.cell? ⟨w.heap.size, 4, none⟩ = some (.int .i64 c.cf) ∧ Y.cell? ⟨w.heap.size, 5, none⟩ = some (.int .i64 c.tm) ∧ Y.cell? ⟨w.heap.size, 6, none⟩ = some (.int .i64 c.fl) ∧ Y.cell? ⟨w.heap.size, 7, none⟩ = some (.int .i64 c.wt)) W2 := HS.out _ HB.out
      refine hK _ _ (fun _ => HSv) ?_
      try simp only [Act.put, List.setIfInBounds_toArray, List.set_cons_zero, List.set_cons_succ]
      clear bA hz hW2 hib
      refine wpAnyH_1 1 rfl (by kernel_rfl) ?_
      intro K hK
      rw [if_pos (by rfl)]
      try go_simp
      go_at_call 18
      refine (HLO.out _).mono ?_
      rintro e W3 ⟨vA, rfl, rA, bA⟩
      obtain ⟨sA, cA, rfl⟩ := rA.form
      have HR := Lib.hid (rA.base HB.out.size)
      have HB := Lib.hid (HB.out.trans (bA.mono HB.out.size))
      have HSv : (fun Y : World => Y.cell? ⟨w.heap.size, 0, none⟩ = some (.int .i64 c.mru) ∧ Y.cell? ⟨w.heap.size, 1, none⟩ = some (.int .i64 c.auth) ∧ Y.cell? ⟨w.heap.size, 2, none⟩ = some (.int .i64 c.magic) ∧ Y.cell? ⟨w.heap.size, 3, none⟩ = some (.int .i64 c.echo) ∧ Y.cell? ⟨w.heap.size, 4, none⟩ = some (.int .i64 c.cf) ∧ Y.cell? ⟨w.heap.size, 5, none⟩ = some (.int .i64 c.tm) ∧ Y.cell? ⟨w.heap.size, 6, none⟩ = some (.int .i64 c.fl) ∧ Y.cell? ⟨w.heap.size, 7, none⟩ = some (.int .i64 c.wt)) W3 := HS.out _ HB.out
      have HI := Lib.hid ((bA.block _ (Array.getElem?_eq_some_iff.1 HI.out).1).trans HI.out)
      refine hK _ _ (fun _ => HSv) ?_
      try simp only [Act.put, List.setIfInBounds_toArray, List.set_cons_zero, List.set_cons_succ]
      clear rA bA
      refine wpAnyH_1 2 rfl (by kernel_rfl) ?_
      intro K hK
      rw [if_pos (by rfl)]
      try go_simp
      go_at_call 35
      refine (units_any 1492 _).mono ?_
      rintro e W4 ⟨rfl, bA⟩
      have HR := Lib.hid (HR.out.below bA)
      have HB := Lib.hid (HB.out.trans (bA.mono HB.out.size))
      have HSv : (fun Y : World => Y.cell? ⟨w.heap.size, 0, none⟩ = some (.int .i64 c.mru) ∧ Y.cell? ⟨w.heap.size, 1, none⟩ = some (.int .i64 c.auth) ∧ Y.cell? ⟨w.heap.size, 2, none⟩ = some (.int .i64 c.magic) ∧ Y.cell? ⟨w.heap.size, 3, none⟩ = some (.int .i64 c.echo) ∧ Y.cell? ⟨w.heap.size, 4, none⟩ = some (.int .i64 c.cf) ∧ Y.cell? ⟨w.heap.size, 5, none⟩ = some (.int .i64 c.tm) ∧ Y.cell? ⟨w.heap.size, 6, none⟩ = some (.int .i64 c.fl) ∧ Y.cell? ⟨w.heap.size, 7, none⟩ = some (.int .i64 c.wt)) W4 := HS.out _ HB.out
      have HI := Lib.hid ((bA.block _ (Array.getElem?_eq_some_iff.1 HI.out).1).trans HI.out)
      refine hK _ _ (fun _ => HSv) ?_
      try simp only [Act.put, List.setIfInBounds_toArray, List.set_cons_zero, List.set_cons_succ]
      clear bA
      refine wpAnyH_1 3 rfl (by kernel_rfl) ?_
      intro K hK
      rw [if_pos (by rfl)]
      try go_simp
      go_at_call 36
      refine (magics_any _).mono ?_
      rintro e W5 ⟨rfl, bA⟩
      have HR := Lib.hid (HR.out.below bA)
      have HB := Lib.hid (HB.out.trans (bA.mono HB.out.size))
      have HSv : (fun Y : World => Y.cell? ⟨w.heap.size, 0, none⟩ = some (.int .i64 c.mru) ∧ Y.cell? ⟨w.heap.size, 1, none⟩ = some (.int .i64 c.auth) ∧ Y.cell? ⟨w.heap.size, 2, none⟩ = some (.int .i64 c.magic) ∧ Y.cell? ⟨w.heap.size, 3, none⟩ = some (.int .i64 c.echo) ∧ Y.cell? ⟨w.heap.size, 4, none⟩ = some (.int .i64 c.cf) ∧ Y.cell? ⟨w.heap.size, 5, none⟩ = some (.int .i64 c.tm) ∧ Y.cell? ⟨w.heap.size, 6, none⟩ = some (.int .i64 c.fl) ∧ Y.cell? ⟨w.heap.size, 7, none⟩ = some (.int .i64 c.wt)) W5 := HS.out _ HB.out
      have HI := Lib.hid ((bA.block _ (Array.getElem?_eq_some_iff.1 HI.out).1).trans HI.out)
      refine hK _ _ (fun _ => HSv) ?_
      try simp only [Act.put, List.setIfInBounds_toArray, List.set_cons_zero, List.set_cons_succ]
      clear bA
      refine wpAnyH_1 4 rfl (by kernel_rfl) ?_
      intro K hK
      rw [if_pos (by rfl)]
      try go_simp
      have bA : Below W5.heap.size W5 (W5.alloc (.cells #[.int .i64 1, .int .i64 2, .int .i64 64, .int .i64 1492, .string (be2 1492), .int .i64 5, .int .i64 4, .int .i64 1, .int .i64 4294967295, .string (be4 1)] 73 (0, 0))) := (Below.refl _ _).alloc (Nat.le_refl _) _
      have hz := at1 W5 (.cells #[.int .i64 1, .int .i64 2, .int .i64 64, .int .i64 1492, .string (be2 1492), .int .i64 5, .int .i64 4, .int .i64 1, .int .i64 4294967295, .string (be4 1)] 73 (0, 0))
      generalize hW6 : W5.alloc (.cells #[.int .i64 1, .int .i64 2, .int .i64 64, .int .i64 1492, .string (be2 1492), .int .i64 5, .int .i64 4, .int .i64 1, .int .i64 4294967295, .string (be4 1)] 73 (0, 0)) = W6 at bA hz ⊢
      obtain ⟨rb, hrb⟩ : ∃ rb, rb = W5.heap.size := ⟨_, rfl⟩
      rw [← hrb] at hz ⊢
      have HRu := Lib.hid hz
      have HR := Lib.hid (HR.out.below bA)
      have HB := Lib.hid (HB.out.trans (bA.mono HB.out.size))
      have HSv : (fun Y : World => Y.cell? ⟨w.heap.size, 0, none⟩ = some (.int .i64 c.mru) ∧ Y.cell? ⟨w.heap.size, 1, none⟩ = some (.int .i64 c.auth) ∧ Y.cell? ⟨w.heap.size, 2, none⟩ = some (.int .i64 c.magic) ∧ Y.cell? ⟨w.heap.size, 3, none⟩ = some (.int .i64 c.echo) ∧ Y.cell? ⟨w.heap.size, 4, none⟩ = some (.int .i64 c.cf) ∧ Y.cell? ⟨w.heap.size, 5, none⟩ = some (.int .i64 c.tm) ∧ Y.cell? ⟨w.heap.size, 6, none⟩ = some (.int .i64 c.fl) ∧ Y.cell? ⟨w.heap.size, 7, none⟩ = some (.int .i64 c.wt)) W6 := HS.out _ HB.out
      have HI := Lib.hid ((bA.block _ (Array.getElem?_eq_some_iff.1 HI.out).1).trans HI.out)
      refine hK _ _ (fun _ => HSv) ?_
      try simp only [Act.put, List.setIfInBounds_toArray, List.set_cons_zero, List.set_cons_succ]
      clear bA hz hW6 hrb
      refine wpAnyH_at 14 (v := ?vv100) rfl (by kernel_rfl) (by kernel_rfl) (by kernel_rfl) (fun _ _ _ h => h) ?hy100 HSv ?hh100
      case hy100 =>
        refine Or.inl ⟨by rfl, ?_⟩
        intro W hW
        obtain ⟨h0, h1, h2, h3, h4, h5, h6, h7⟩ := hW
        go_simp
        try with_reducible rfl
      simp only [Act.put, List.setIfInBounds_toArray, List.set_cons_zero, List.set_cons_succ]
      refine wpAnyH_1 17 rfl (by kernel_rfl) ?_
      intro K hK
      rw [if_pos (by rfl)]
      try go_simp
      go_at_call 34
      refine (HNN.out lb W6 sA _ cA rb ib).mono ?_
      rintro e wE ⟨rfl, bE⟩
      have HN := Lib.hid (HB.out.trans (bE.mono HB.out.size))
      have HSv : (fun Y : World => Y.cell? ⟨w.heap.size, 0, none⟩ = some (.int .i64 c.mru) ∧ Y.cell? ⟨w.heap.size, 1, none⟩ = some (.int .i64 c.auth) ∧ Y.cell? ⟨w.heap.size, 2, none⟩ = some (.int .i64 c.magic) ∧ Y.cell? ⟨w.heap.size, 3, none⟩ = some (.int .i64 c.echo) ∧ Y.cell? ⟨w.heap.size, 4, none⟩ = some (.int .i64 c.cf) ∧ Y.cell? ⟨w.heap.size, 5, none⟩ = some (.int .i64 c.tm) ∧ Y.cell? ⟨w.heap.size, 6, none⟩ = some (.int .i64 c.fl) ∧ Y.cell? ⟨w.heap.size, 7, none⟩ = some (.int .i64 c.wt)) wE := HS.out _ HN.out
      clear bE
      refine hK _ _ (fun _ => HSv) ?_
      try simp only [Act.put, List.setIfInBounds_toArray, List.set_cons_zero, List.set_cons_succ]
      refine wpAnyH_at 18 (v := ?vv101) rfl (by kernel_rfl) (by kernel_rfl) (by kernel_rfl) (fun _ _ _ h => h) ?hy101 HSv ?hh101
      case hy101 =>
        refine Or.inl ⟨by rfl, ?_⟩
        intro W hW
        obtain ⟨h0, h1, h2, h3, h4, h5, h6, h7⟩ := hW
        go_simp
        try with_reducible rfl
      simp only [Act.put, List.setIfInBounds_toArray, List.set_cons_zero, List.set_cons_succ]
      refine wpAnyH_at 19 (v := ?vv102) rfl (by kernel_rfl) (by kernel_rfl) (by kernel_rfl) (fun _ _ _ h => h) ?hy102 HSv ?hh102
      case hy102 =>
        refine Or.inl ⟨by rfl, ?_⟩
        intro W hW
        obtain ⟨h0, h1, h2, h3, h4, h5, h6, h7⟩ := hW
        go_simp
        try with_reducible rfl
      simp only [Act.put, List.setIfInBounds_toArray, List.set_cons_zero, List.set_cons_succ]
      refine wpAnyH_at 21 (v := ?vv103) rfl (by kernel_rfl) (by kernel_rfl) (by kernel_rfl) (fun _ _ _ h => h) ?hy103 HSv ?hh103
      case hy103 =>
        refine Or.inl ⟨by rfl, ?_⟩
        intro W hW
        obtain ⟨h0, h1, h2, h3, h4, h5, h6, h7⟩ := hW
        go_simp
        try with_reducible rfl
      simp only [Act.put, List.setIfInBounds_toArray, List.set_cons_zero, List.set_cons_succ]
      refine wpAnyH_at 20 (v := ?vv104) rfl (by kernel_rfl) (by kernel_rfl) (by kernel_rfl) (fun _ _ _ h => h) ?hy104 HSv ?hh104
      case hy104 =>
        refine Or.inl ⟨by rfl, ?_⟩
        intro W hW
        obtain ⟨h0, h1, h2, h3, h4, h5, h6, h7⟩ := hW
        go_simp
        try with_reducible rfl
      simp only [Act.put, List.setIfInBounds_toArray, List.set_cons_zero, List.set_cons_succ]
      refine wpAnyH_at 22 (v := ?vv105) rfl (by kernel_rfl) (by kernel_rfl) (by kernel_rfl) (fun _ _ _ h => h) ?hy105 HSv ?hh105
      case hy105 =>
        refine Or.inl ⟨by rfl, ?_⟩
        intro W hW
        obtain ⟨h0, h1, h2, h3, h4, h5, h6, h7⟩ := hW
        go_simp
        try with_reducible rfl
      simp only [Act.put, List.setIfInBounds_toArray, List.set_cons_zero, List.set_cons_succ]
      refine wpAnyH_end 23 (fun j hj => rgH_end _ _ j (by omega)) (by rfl) (by kernel_rfl) ?_
      simp only [List.drop_succ_cons, List.drop_zero]
      clear HSv
      go_wp2_with fail
      go_ret2
      exact ⟨rfl, HZ.out.2.2.1.trans (HN.out.mono HZ.out.2.2.1.size)⟩
  · have ea : (c.auth != 0) = true := by simpa using h0
    have ev := hva h0
    clear hva h0
    go_enter Tryz.func12, Tryz.ntmps12
    go_wp2_with (first
      | (go_at_call 32; first | with_reducible refine (HL.out.1 _).mono ?_ | with_reducible refine (HL.out.2.1 _).mono ?_ | with_reducible refine (HL.out.2.2 _).mono ?_
         rintro e w1 ⟨rfl, rfl⟩)
      | (go_at_call 33; refine (HV.out _).mono ?_; rintro e wu ⟨rfl, hb⟩
         have hz := (hb.block w.heap.size (by have := HB0.out.2.2; unfold cfgO at this; rw [this]; omega)).trans HB0.out.2.1
         have HZ0 := Lib.hid (And.intro (HB0.out.1.trans (hb.mono (by have := HB0.out.1.size; exact this))) hz)
         unfold cfgO at hz
         have x0 := cellOf hz 0 _ rfl
         have x1 := cellOf hz 1 _ rfl
         have x2 := cellOf hz 2 _ rfl
         have x3 := cellOf hz 3 _ rfl
         have x4 := cellOf hz 4 _ rfl
         have x5 := cellOf hz 5 _ rfl
         have x6 := cellOf hz 6 _ rfl
         have x7 := cellOf hz 7 _ rfl
         clear hb hz)
      | (go_at_call 13; refine (tapeNew_any [] _ (fun _ => False) _ (Rec.nil _ _ _) (fun _ h => by cases h) (by decide)).mono ?_; rintro e wv ⟨tb, rfl, t5, s5, b5⟩
         have HT5 := Lib.hid (And.intro t5 (And.intro t5.lt (Nat.le_trans HZ0.out.1.size s5)))
         have HZ := Lib.hid (show Below w.heap.size w wv ∧ wv.heap[w.heap.size]? = some (cfgO c) from ⟨HZ0.out.1.trans (b5.mono HZ0.out.1.size), (b5.block _ (Array.getElem?_eq_some_iff.1 HZ0.out.2).1).trans HZ0.out.2⟩)
         have hz := HZ.out.2
         unfold cfgO at hz
         have x0 := cellOf hz 0 _ rfl
         have x1 := cellOf hz 1 _ rfl
         have x2 := cellOf hz 2 _ rfl
         have x3 := cellOf hz 3 _ rfl
         have x4 := cellOf hz 4 _ rfl
         have x5 := cellOf hz 5 _ rfl
         have x6 := cellOf hz 6 _ rfl
         have x7 := cellOf hz 7 _ rfl
         clear t5 s5 b5 hz))
    clear x0 x1 x2 x3 x4 x5 x6 x7
    have hz1 : (wv.alloc (.cells #[.pointer none, .pointer (some ⟨tb, 0, none⟩), .int .i64 c.echo, .int .i64 c.magic, .int .i64 0, .int .i64 0, .int .i64 0] 64 (0, 0))).heap[w.heap.size]? = some (cfgO c) := (Below.heap_alloc _ _ _ (Array.getElem?_eq_some_iff.1 HZ.out.2).1).trans HZ.out.2
    have hl1 := at1 wv (.cells #[.pointer none, .pointer (some ⟨tb, 0, none⟩), .int .i64 c.echo, .int .i64 c.magic, .int .i64 0, .int .i64 0, .int .i64 0] 64 (0, 0))
    have hw1 : Below w.heap.size w (wv.alloc (.cells #[.pointer none, .pointer (some ⟨tb, 0, none⟩), .int .i64 c.echo, .int .i64 c.magic, .int .i64 0, .int .i64 0, .int .i64 0] 64 (0, 0))) := HZ.out.1.alloc HZ.out.1.size _
    have hs1 := alloc1 wv (.cells #[.pointer none, .pointer (some ⟨tb, 0, none⟩), .int .i64 c.echo, .int .i64 c.magic, .int .i64 0, .int .i64 0, .int .i64 0] 64 (0, 0))
    have hlb : w.heap.size < wv.heap.size := (Array.getElem?_eq_some_iff.1 HZ.out.2).1
    obtain ⟨okt, hokt⟩ : ∃ okt : Nat → Prop, okt = fun b => wu.heap.size ≤ b ∧ b < tb := ⟨_, rfl⟩
    have ht1 : TapeAt (wv.alloc (.cells #[.pointer none, .pointer (some ⟨tb, 0, none⟩), .int .i64 c.echo, .int .i64 c.magic, .int .i64 0, .int .i64 0, .int .i64 0] 64 (0, 0))) tb okt ⟨[], 0⟩ := by rw [hokt]; exact HT5.out.1.below ((Below.refl _ _).alloc (Nat.le_refl _) _)
    have htl := HT5.out.2.1
    have HW := Lib.hid (And.intro (show ∀ b, okt b → w.heap.size ≤ b from fun b hb => by rw [hokt] at hb; exact Nat.le_trans HZ0.out.1.size hb.1) HT5.out.2.2)
    have HOK := Lib.hid (show ∀ b, okt b → b < tb from fun b hb => by rw [hokt] at hb; exact hb.2)
    obtain ⟨lb, hlbe⟩ : ∃ lb, lb = wv.heap.size := ⟨_, rfl⟩
    generalize hW1 : wv.alloc (.cells #[.pointer none, .pointer (some ⟨tb, 0, none⟩), .int .i64 c.echo, .int .i64 c.magic, .int .i64 0, .int .i64 0, .int .i64 0] 64 (0, 0)) = W1 at hz1 hl1 hw1 hs1 ht1 ⊢
    rw [← hlbe] at hl1 hs1 hlb htl ⊢
    clear hW1 hlbe HZ hokt HT5
    have HZ := Lib.hid (And.intro hz1 (And.intro hl1 (And.intro hw1 (And.intro hs1 hlb))))
    have HS : Hid (∀ W, Below W1.heap.size W1 W → (fun Y : World => Y.cell? ⟨w.heap.size, 0, none⟩ = some (.int .i64 c.mru) ∧ Y.cell? ⟨w.heap.size, 1, none⟩ = some (.int .i64 c.auth) ∧ Y.cell? ⟨w.heap.size, 2, none⟩ = some (.int .i64 c.magic) ∧ Y.cell? ⟨w.heap.size, 3, none⟩ = some (.int .i64 c.echo) ∧ Y.cell? ⟨w.heap.size, 4, none⟩ = some (.int .i64 c.cf) ∧ Y.cell? ⟨w.heap.size, 5, none⟩ = some (.int .i64 c.tm) ∧ Y.cell? ⟨w.heap.size, 6, none⟩ = some (.int .i64 c.fl) ∧ Y.cell? ⟨w.heap.size, 7, none⟩ = some (.int .i64 c.wt)) W) := Lib.hid fun W hW => by
      have h : W.heap[w.heap.size]? = some (.cells #[.int .i64 c.mru, .int .i64 c.auth, .int .i64 c.magic, .int .i64 c.echo, .int .i64 c.cf, .int .i64 c.tm, .int .i64 c.fl, .int .i64 c.wt] 24 (0, 0)) := (hW.block _ (by have := HZ.out.2.2.2.1; have := HZ.out.2.2.2.2; omega)).trans HZ.out.1
      exact ⟨cellOf h 0 _ rfl, cellOf h 1 _ rfl, cellOf h 2 _ rfl, cellOf h 3 _ rfl, cellOf h 4 _ rfl, cellOf h 5 _ rfl, cellOf h 6 _ rfl, cellOf h 7 _ rfl⟩
    have HLO := Lib.hid (fun W => lopts_any c W HIA.out)
    unfold cfgV at HLO
    have a1 : ∀ (W : World) (O : Obj), W.heap.size < (W.alloc O).heap.size := fun W O => by rw [alloc1]; omega
    have HA1 := Lib.hid a1
    obtain ⟨y0, y1, y2, y3, y4, y5, y6, y7⟩ := HS.out W1.drew (Below.refl _ _).drew
    clear hz1 hl1 hw1 hs1 hlb a1 ht1 htl
    refine wp_region_H (rgH 0 23) (fun Y : World => Y.cell? ⟨w.heap.size, 0, none⟩ = some (.int .i64 c.mru) ∧ Y.cell? ⟨w.heap.size, 1, none⟩ = some (.int .i64 c.auth) ∧ Y.cell? ⟨w.heap.size, 2, none⟩ = some (.int .i64 c.magic) ∧ Y.cell? ⟨w.heap.size, 3, none⟩ = some (.int .i64 c.echo) ∧ Y.cell? ⟨w.heap.size, 4, none⟩ = some (.int .i64 c.cf) ∧ Y.cell? ⟨w.heap.size, 5, none⟩ = some (.int .i64 c.tm) ∧ Y.cell? ⟨w.heap.size, 6, none⟩ = some (.int .i64 c.fl) ∧ Y.cell? ⟨w.heap.size, 7, none⟩ = some (.int .i64 c.wt)) (by kernel_rfl) ?_
    have HSv : (fun Y : World => Y.cell? ⟨w.heap.size, 0, none⟩ = some (.int .i64 c.mru) ∧ Y.cell? ⟨w.heap.size, 1, none⟩ = some (.int .i64 c.auth) ∧ Y.cell? ⟨w.heap.size, 2, none⟩ = some (.int .i64 c.magic) ∧ Y.cell? ⟨w.heap.size, 3, none⟩ = some (.int .i64 c.echo) ∧ Y.cell? ⟨w.heap.size, 4, none⟩ = some (.int .i64 c.cf) ∧ Y.cell? ⟨w.heap.size, 5, none⟩ = some (.int .i64 c.tm) ∧ Y.cell? ⟨w.heap.size, 6, none⟩ = some (.int .i64 c.fl) ∧ Y.cell? ⟨w.heap.size, 7, none⟩ = some (.int .i64 c.wt)) W1.drew := HS.out _ (Below.refl _ _).drew
    have HB := Lib.hid (show Below W1.heap.size W1 W1.drew from (Below.refl _ _).drew)
    refine wpAnyH_at 0 (v := ?vv106) rfl (by kernel_rfl) (by kernel_rfl) (by kernel_rfl) (fun _ _ _ h => h) ?hy106 HSv ?hh106
    case hy106 =>
      refine Or.inl ⟨by rfl, ?_⟩
      intro W hW
      obtain ⟨h0, h1, h2, h3, h4, h5, h6, h7⟩ := hW
      go_simp
      try with_reducible rfl
    simp only [Act.put, List.setIfInBounds_toArray, List.set_cons_zero, List.set_cons_succ]
    refine wpAnyH_at 6 (v := ?vv107) rfl (by kernel_rfl) (by kernel_rfl) (by kernel_rfl) (fun _ _ _ h => h) ?hy107 HSv ?hh107
    case hy107 =>
      refine Or.inl ⟨by rfl, ?_⟩
      intro W hW
      obtain ⟨h0, h1, h2, h3, h4, h5, h6, h7⟩ := hW
      go_simp
      try with_reducible rfl
    simp only [Act.put, List.setIfInBounds_toArray, List.set_cons_zero, List.set_cons_succ]
    refine wpAnyH_at 7 (v := ?vv108) rfl (by kernel_rfl) (by kernel_rfl) (by kernel_rfl) (fun _ _ _ h => h) ?hy108 HSv ?hh108
    case hy108 =>
      refine Or.inl ⟨by rfl, ?_⟩
      intro W hW
      obtain ⟨h0, h1, h2, h3, h4, h5, h6, h7⟩ := hW
      go_simp
      try with_reducible rfl
    simp only [Act.put, List.setIfInBounds_toArray, List.set_cons_zero, List.set_cons_succ]
    refine wpAnyH_at 8 (v := ?vv109) rfl (by kernel_rfl) (by kernel_rfl) (by kernel_rfl) (fun _ _ _ h => h) ?hy109 HSv ?hh109
    case hy109 =>
      refine Or.inl ⟨by rfl, ?_⟩
      intro W hW
      obtain ⟨h0, h1, h2, h3, h4, h5, h6, h7⟩ := hW
      go_simp
      try with_reducible rfl
    simp only [Act.put, List.setIfInBounds_toArray, List.set_cons_zero, List.set_cons_succ]
    refine wpAnyH_at 9 (v := ?vv110) rfl (by kernel_rfl) (by kernel_rfl) (by kernel_rfl) (fun _ _ _ h => h) ?hy110 HSv ?hh110
    case hy110 =>
      refine Or.inl ⟨by rfl, ?_⟩
      intro W hW
      obtain ⟨h0, h1, h2, h3, h4, h5, h6, h7⟩ := hW
      go_simp
      try with_reducible rfl
    simp only [Act.put, List.setIfInBounds_toArray, List.set_cons_zero, List.set_cons_succ]
    refine wpAnyH_at 10 (v := ?vv111) rfl (by kernel_rfl) (by kernel_rfl) (by kernel_rfl) (fun _ _ _ h => h) ?hy111 HSv ?hh111
    case hy111 =>
      refine Or.inl ⟨by rfl, ?_⟩
      intro W hW
      obtain ⟨h0, h1, h2, h3, h4, h5, h6, h7⟩ := hW
      go_simp
      try with_reducible rfl
    simp only [Act.put, List.setIfInBounds_toArray, List.set_cons_zero, List.set_cons_succ]
    refine wpAnyH_at 11 (v := ?vv112) rfl (by kernel_rfl) (by kernel_rfl) (by kernel_rfl) (fun _ _ _ h => h) ?hy112 HSv ?hh112
    case hy112 =>
      refine Or.inl ⟨by rfl, ?_⟩
      intro W hW
      obtain ⟨h0, h1, h2, h3, h4, h5, h6, h7⟩ := hW
      go_simp
      try with_reducible rfl
    simp only [Act.put, List.setIfInBounds_toArray, List.set_cons_zero, List.set_cons_succ]
    refine wpAnyH_at 12 (v := ?vv113) rfl (by kernel_rfl) (by kernel_rfl) (by kernel_rfl) (fun _ _ _ h => h) ?hy113 HSv ?hh113
    case hy113 =>
      refine Or.inl ⟨by rfl, ?_⟩
      intro W hW
      obtain ⟨h0, h1, h2, h3, h4, h5, h6, h7⟩ := hW
      go_simp
      try with_reducible rfl
    simp only [Act.put, List.setIfInBounds_toArray, List.set_cons_zero, List.set_cons_succ]
    refine wpAnyH_at 13 (v := ?vv114) rfl (by kernel_rfl) (by kernel_rfl) (by kernel_rfl) (fun _ _ _ h => h) ?hy114 HSv ?hh114
    case hy114 =>
      refine Or.inl ⟨by rfl, ?_⟩
      intro W hW
      obtain ⟨h0, h1, h2, h3, h4, h5, h6, h7⟩ := hW
      go_simp
      try with_reducible rfl
    simp only [Act.put, List.setIfInBounds_toArray, List.set_cons_zero, List.set_cons_succ]
    refine wpAnyH_at 15 (v := ?vv115) rfl (by kernel_rfl) (by kernel_rfl) (by kernel_rfl) (fun _ _ _ h => h) ?hy115 HSv ?hh115
    case hy115 =>
      refine Or.inl ⟨by rfl, ?_⟩
      intro W hW
      obtain ⟨h0, h1, h2, h3, h4, h5, h6, h7⟩ := hW
      go_simp
      try with_reducible rfl
    simp only [Act.put, List.setIfInBounds_toArray, List.set_cons_zero, List.set_cons_succ]
    refine wpAnyH_at 16 (v := ?vv116) rfl (by kernel_rfl) (by kernel_rfl) (by kernel_rfl) (fun _ _ _ h => h) ?hy116 HSv ?hh116
    case hy116 =>
      refine Or.inl ⟨by rfl, ?_⟩
      intro W hW
      obtain ⟨h0, h1, h2, h3, h4, h5, h6, h7⟩ := hW
      go_simp
      try with_reducible rfl
    simp only [Act.put, List.setIfInBounds_toArray, List.set_cons_zero, List.set_cons_succ]
    generalize W1.drew = W at HSv HB ⊢
    refine wpAnyH_2 1 5 rfl rfl (by kernel_rfl) ?_ ?_
    · intro K hK
      rw [if_pos (by rfl)]
      try go_simp
      go_at_call 18
      refine (HLO.out _).mono ?_
      rintro e W2 ⟨vA, rfl, rA, bA⟩
      obtain ⟨sA, cA, rfl⟩ := rA.form
      have HR := Lib.hid (rA.base HB.out.size)
      have HB := Lib.hid (HB.out.trans (bA.mono HB.out.size))
      have HSv : (fun Y : World => Y.cell? ⟨w.heap.size, 0, none⟩ = some (.int .i64 c.mru) ∧ Y.cell? ⟨w.heap.size, 1, none⟩ = some (.int .i64 c.auth) ∧ Y.cell? ⟨w.heap.size, 2, none⟩ = some (.int .i64 c.magic) ∧ Y.cell? ⟨w.heap.size, 3, none⟩ = some (.int .i64 c.echo) ∧ Y.cell? ⟨w.heap.size, 4, none⟩ = some (.int .i64 c.cf) ∧ Y.cell? ⟨w.heap.size, 5, none⟩ = some (.int .i64 c.tm) ∧ Y.cell? ⟨w.heap.size, 6, none⟩ = some (.int .i64 c.fl) ∧ Y.cell? ⟨w.heap.size, 7, none⟩ = some (.int .i64 c.wt)) W2 := HS.out _ HB.out
      refine hK _ _ (fun _ => HSv) ?_
      try simp only [Act.put, List.setIfInBounds_toArray, List.set_cons_zero, List.set_cons_succ]
      clear rA bA
      refine wpAnyH_2 2 5 rfl rfl (by kernel_rfl) ?_ ?_
      · intro K hK
        rw [if_pos (by rfl)]
        try go_simp
        go_at_call 35
        refine (units_any 1492 _).mono ?_
        rintro e W3 ⟨rfl, bA⟩
        have HR := Lib.hid (HR.out.below bA)
        have HB := Lib.hid (HB.out.trans (bA.mono HB.out.size))
        have HSv : (fun Y : World => Y.cell? ⟨w.heap.size, 0, none⟩ = some (.int .i64 c.mru) ∧ Y.cell? ⟨w.heap.size, 1, none⟩ = some (.int .i64 c.auth) ∧ Y.cell? ⟨w.heap.size, 2, none⟩ = some (.int .i64 c.magic) ∧ Y.cell? ⟨w.heap.size, 3, none⟩ = some (.int .i64 c.echo) ∧ Y.cell? ⟨w.heap.size, 4, none⟩ = some (.int .i64 c.cf) ∧ Y.cell? ⟨w.heap.size, 5, none⟩ = some (.int .i64 c.tm) ∧ Y.cell? ⟨w.heap.size, 6, none⟩ = some (.int .i64 c.fl) ∧ Y.cell? ⟨w.heap.size, 7, none⟩ = some (.int .i64 c.wt)) W3 := HS.out _ HB.out
        refine hK _ _ (fun _ => HSv) ?_
        try simp only [Act.put, List.setIfInBounds_toArray, List.set_cons_zero, List.set_cons_succ]
        clear bA
        refine wpAnyH_2 3 5 rfl rfl (by kernel_rfl) ?_ ?_
        · intro K hK
          rw [if_pos (by rfl)]
          try go_simp
          go_at_call 36
          refine (magics_any _).mono ?_
          rintro e W4 ⟨rfl, bA⟩
          have HR := Lib.hid (HR.out.below bA)
          have HB := Lib.hid (HB.out.trans (bA.mono HB.out.size))
          have HSv : (fun Y : World => Y.cell? ⟨w.heap.size, 0, none⟩ = some (.int .i64 c.mru) ∧ Y.cell? ⟨w.heap.size, 1, none⟩ = some (.int .i64 c.auth) ∧ Y.cell? ⟨w.heap.size, 2, none⟩ = some (.int .i64 c.magic) ∧ Y.cell? ⟨w.heap.size, 3, none⟩ = some (.int .i64 c.echo) ∧ Y.cell? ⟨w.heap.size, 4, none⟩ = some (.int .i64 c.cf) ∧ Y.cell? ⟨w.heap.size, 5, none⟩ = some (.int .i64 c.tm) ∧ Y.cell? ⟨w.heap.size, 6, none⟩ = some (.int .i64 c.fl) ∧ Y.cell? ⟨w.heap.size, 7, none⟩ = some (.int .i64 c.wt)) W4 := HS.out _ HB.out
          refine hK _ _ (fun _ => HSv) ?_
          try simp only [Act.put, List.setIfInBounds_toArray, List.set_cons_zero, List.set_cons_succ]
          clear bA
          refine wpAnyH_2 4 5 rfl rfl (by kernel_rfl) ?_ ?_
          · intro K hK
            rw [if_pos (by rfl)]
            try go_simp
            have bA : Below W4.heap.size W4 (W4.alloc (.cells #[.int .i64 1, .int .i64 2, .int .i64 64, .int .i64 1492, .string (be2 1492), .int .i64 5, .int .i64 4, .int .i64 1, .int .i64 4294967295, .string (be4 1)] 73 (0, 0))) := (Below.refl _ _).alloc (Nat.le_refl _) _
            have hz := at1 W4 (.cells #[.int .i64 1, .int .i64 2, .int .i64 64, .int .i64 1492, .string (be2 1492), .int .i64 5, .int .i64 4, .int .i64 1, .int .i64 4294967295, .string (be4 1)] 73 (0, 0))
            generalize hW5 : W4.alloc (.cells #[.int .i64 1, .int .i64 2, .int .i64 64, .int .i64 1492, .string (be2 1492), .int .i64 5, .int .i64 4, .int .i64 1, .int .i64 4294967295, .string (be4 1)] 73 (0, 0)) = W5 at bA hz ⊢
            obtain ⟨rb, hrb⟩ : ∃ rb, rb = W4.heap.size := ⟨_, rfl⟩
            rw [← hrb] at hz ⊢
            have HRu := Lib.hid hz
            have HR := Lib.hid (HR.out.below bA)
            have HB := Lib.hid (HB.out.trans (bA.mono HB.out.size))
            have HSv : (fun Y : World => Y.cell? ⟨w.heap.size, 0, none⟩ = some (.int .i64 c.mru) ∧ Y.cell? ⟨w.heap.size, 1, none⟩ = some (.int .i64 c.auth) ∧ Y.cell? ⟨w.heap.size, 2, none⟩ = some (.int .i64 c.magic) ∧ Y.cell? ⟨w.heap.size, 3, none⟩ = some (.int .i64 c.echo) ∧ Y.cell? ⟨w.heap.size, 4, none⟩ = some (.int .i64 c.cf) ∧ Y.cell? ⟨w.heap.size, 5, none⟩ = some (.int .i64 c.tm) ∧ Y.cell? ⟨w.heap.size, 6, none⟩ = some (.int .i64 c.fl) ∧ Y.cell? ⟨w.heap.size, 7, none⟩ = some (.int .i64 c.wt)) W5 := HS.out _ HB.out
            refine hK _ _ (fun _ => HSv) ?_
            try simp only [Act.put, List.setIfInBounds_toArray, List.set_cons_zero, List.set_cons_succ]
            clear bA hz hW5 hrb
            refine wpAnyH_1 5 rfl (by kernel_rfl) ?_
            intro K hK
            rw [if_pos (by rfl)]
            try go_simp
            have bA : Below W5.heap.size W5 (W5.alloc (.cells #[.int .i64 3] 3 (0, 0))) := (Below.refl _ _).alloc (Nat.le_refl _) _
            have hz := at1 W5 (.cells #[.int .i64 3] 3 (0, 0))
            generalize hW6 : W5.alloc (.cells #[.int .i64 3] 3 (0, 0)) = W6 at bA hz ⊢
            obtain ⟨ib, hib⟩ : ∃ ib, ib = W5.heap.size := ⟨_, rfl⟩
            rw [← hib] at hz ⊢
            have HI := Lib.hid hz
            have HR := Lib.hid (HR.out.below bA)
            have HRu := Lib.hid ((bA.block _ (Array.getElem?_eq_some_iff.1 HRu.out).1).trans HRu.out)
            have HB := Lib.hid (HB.out.trans (bA.mono HB.out.size))
            have HSv : (fun Y : World => Y.cell? ⟨w.heap.size, 0, none⟩ = some (.int .i64 c.mru) ∧ Y.cell? ⟨w.heap.size, 1, none⟩ = some (.int .i64 c.auth) ∧ Y.cell? ⟨w.heap.size, 2, none⟩ = some (.int .i64 c.magic) ∧ Y.cell? ⟨w.heap.size, 3, none⟩ = some (.int .i64 c.echo) ∧ Y.cell? ⟨w.heap.size, 4, none⟩ = some (.int .i64 c.cf) ∧ Y.cell? ⟨w.heap.size, 5, none⟩ = some (.int .i64 c.tm) ∧ Y.cell? ⟨w.heap.size, 6, none⟩ = some (.int .i64 c.fl) ∧ Y.cell? ⟨w.heap.size, 7, none⟩ = some (.int .i64 c.wt)) W6 := HS.out _ HB.out
            refine hK _ _ (fun _ => HSv) ?_
            try simp only [Act.put, List.setIfInBounds_toArray, List.set_cons_zero, List.set_cons_succ]
            clear bA hz hW6 hib
            refine wpAnyH_at 14 (v := ?vv117) rfl (by kernel_rfl) (by kernel_rfl) (by kernel_rfl) (fun _ _ _ h => h) ?hy117 HSv ?hh117
            case hy117 =>
              refine Or.inl ⟨by rfl, ?_⟩
              intro W hW
              obtain ⟨h0, h1, h2, h3, h4, h5, h6, h7⟩ := hW
              go_simp
              try with_reducible rfl
            simp only [Act.put, List.setIfInBounds_toArray, List.set_cons_zero, List.set_cons_succ]
            refine wpAnyH_1 17 rfl (by kernel_rfl) ?_
            intro K hK
            rw [if_pos (by rfl)]
            try go_simp
            go_at_call 34
            refine (HNN.out lb W6 sA _ cA rb ib).mono ?_
            rintro e wE ⟨rfl, bE⟩
            have HN := Lib.hid (HB.out.trans (bE.mono HB.out.size))
            have HSv : (fun Y : World => Y.cell? ⟨w.heap.size, 0, none⟩ = some (.int .i64 c.mru) ∧ Y.cell? ⟨w.heap.size, 1, none⟩ = some (.int .i64 c.auth) ∧ Y.cell? ⟨w.heap.size, 2, none⟩ = some (.int .i64 c.magic) ∧ Y.cell? ⟨w.heap.size, 3, none⟩ = some (.int .i64 c.echo) ∧ Y.cell? ⟨w.heap.size, 4, none⟩ = some (.int .i64 c.cf) ∧ Y.cell? ⟨w.heap.size, 5, none⟩ = some (.int .i64 c.tm) ∧ Y.cell? ⟨w.heap.size, 6, none⟩ = some (.int .i64 c.fl) ∧ Y.cell? ⟨w.heap.size, 7, none⟩ = some (.int .i64 c.wt)) wE := HS.out _ HN.out
            clear bE
            refine hK _ _ (fun _ => HSv) ?_
            try simp only [Act.put, List.setIfInBounds_toArray, List.set_cons_zero, List.set_cons_succ]
            refine wpAnyH_at 18 (v := ?vv118) rfl (by kernel_rfl) (by kernel_rfl) (by kernel_rfl) (fun _ _ _ h => h) ?hy118 HSv ?hh118
            case hy118 =>
              refine Or.inl ⟨by rfl, ?_⟩
              intro W hW
              obtain ⟨h0, h1, h2, h3, h4, h5, h6, h7⟩ := hW
              go_simp
              try with_reducible rfl
            simp only [Act.put, List.setIfInBounds_toArray, List.set_cons_zero, List.set_cons_succ]
            refine wpAnyH_at 19 (v := ?vv119) rfl (by kernel_rfl) (by kernel_rfl) (by kernel_rfl) (fun _ _ _ h => h) ?hy119 HSv ?hh119
            case hy119 =>
              refine Or.inl ⟨by rfl, ?_⟩
              intro W hW
              obtain ⟨h0, h1, h2, h3, h4, h5, h6, h7⟩ := hW
              go_simp
              try with_reducible rfl
            simp only [Act.put, List.setIfInBounds_toArray, List.set_cons_zero, List.set_cons_succ]
            refine wpAnyH_at 21 (v := ?vv120) rfl (by kernel_rfl) (by kernel_rfl) (by kernel_rfl) (fun _ _ _ h => h) ?hy120 HSv ?hh120
            case hy120 =>
              refine Or.inl ⟨by rfl, ?_⟩
              intro W hW
              obtain ⟨h0, h1, h2, h3, h4, h5, h6, h7⟩ := hW
              go_simp
              try with_reducible rfl
            simp only [Act.put, List.setIfInBounds_toArray, List.set_cons_zero, List.set_cons_succ]
            refine wpAnyH_at 20 (v := ?vv121) rfl (by kernel_rfl) (by kernel_rfl) (by kernel_rfl) (fun _ _ _ h => h) ?hy121 HSv ?hh121
            case hy121 =>
              refine Or.inl ⟨by rfl, ?_⟩
              intro W hW
              obtain ⟨h0, h1, h2, h3, h4, h5, h6, h7⟩ := hW
              go_simp
              try with_reducible rfl
            simp only [Act.put, List.setIfInBounds_toArray, List.set_cons_zero, List.set_cons_succ]
            refine wpAnyH_at 22 (v := ?vv122) rfl (by kernel_rfl) (by kernel_rfl) (by kernel_rfl) (fun _ _ _ h => h) ?hy122 HSv ?hh122
            case hy122 =>
              refine Or.inl ⟨by rfl, ?_⟩
              intro W hW
              obtain ⟨h0, h1, h2, h3, h4, h5, h6, h7⟩ := hW
              go_simp
              try with_reducible rfl
            simp only [Act.put, List.setIfInBounds_toArray, List.set_cons_zero, List.set_cons_succ]
            refine wpAnyH_end 23 (fun j hj => rgH_end _ _ j (by omega)) (by rfl) (by kernel_rfl) ?_
            simp only [List.drop_succ_cons, List.drop_zero]
            clear HSv
            go_wp2_with fail
            go_ret2
            exact ⟨rfl, HZ.out.2.2.1.trans (HN.out.mono HZ.out.2.2.1.size)⟩
          · intro K hK
            rw [if_pos (by rfl)]
            try go_simp
            have bA : Below W4.heap.size W4 (W4.alloc (.cells #[.int .i64 3] 3 (0, 0))) := (Below.refl _ _).alloc (Nat.le_refl _) _
            have hz := at1 W4 (.cells #[.int .i64 3] 3 (0, 0))
            generalize hW5 : W4.alloc (.cells #[.int .i64 3] 3 (0, 0)) = W5 at bA hz ⊢
            obtain ⟨ib, hib⟩ : ∃ ib, ib = W4.heap.size := ⟨_, rfl⟩
            rw [← hib] at hz ⊢
            have HI := Lib.hid hz
            have HR := Lib.hid (HR.out.below bA)
            have HB := Lib.hid (HB.out.trans (bA.mono HB.out.size))
            have HSv : (fun Y : World => Y.cell? ⟨w.heap.size, 0, none⟩ = some (.int .i64 c.mru) ∧ Y.cell? ⟨w.heap.size, 1, none⟩ = some (.int .i64 c.auth) ∧ Y.cell? ⟨w.heap.size, 2, none⟩ = some (.int .i64 c.magic) ∧ Y.cell? ⟨w.heap.size, 3, none⟩ = some (.int .i64 c.echo) ∧ Y.cell? ⟨w.heap.size, 4, none⟩ = some (.int .i64 c.cf) ∧ Y.cell? ⟨w.heap.size, 5, none⟩ = some (.int .i64 c.tm) ∧ Y.cell? ⟨w.heap.size, 6, none⟩ = some (.int .i64 c.fl) ∧ Y.cell? ⟨w.heap.size, 7, none⟩ = some (.int .i64 c.wt)) W5 := HS.out _ HB.out
            refine hK _ _ (fun _ => HSv) ?_
            try simp only [Act.put, List.setIfInBounds_toArray, List.set_cons_zero, List.set_cons_succ]
            clear bA hz hW5 hib
            refine wpAnyH_1 4 rfl (by kernel_rfl) ?_
            intro K hK
            rw [if_pos (by rfl)]
            try go_simp
            have bA : Below W5.heap.size W5 (W5.alloc (.cells #[.int .i64 1, .int .i64 2, .int .i64 64, .int .i64 1492, .string (be2 1492), .int .i64 5, .int .i64 4, .int .i64 1, .int .i64 4294967295, .string (be4 1)] 73 (0, 0))) := (Below.refl _ _).alloc (Nat.le_refl _) _
            have hz := at1 W5 (.cells #[.int .i64 1, .int .i64 2, .int .i64 64, .int .i64 1492, .string (be2 1492), .int .i64 5, .int .i64 4, .int .i64 1, .int .i64 4294967295, .string (be4 1)] 73 (0, 0))
            generalize hW6 : W5.alloc (.cells #[.int .i64 1, .int .i64 2, .int .i64 64, .int .i64 1492, .string (be2 1492), .int .i64 5, .int .i64 4, .int .i64 1, .int .i64 4294967295, .string (be4 1)] 73 (0, 0)) = W6 at bA hz ⊢
            obtain ⟨rb, hrb⟩ : ∃ rb, rb = W5.heap.size := ⟨_, rfl⟩
            rw [← hrb] at hz ⊢
            have HRu := Lib.hid hz
            have HR := Lib.hid (HR.out.below bA)
            have HB := Lib.hid (HB.out.trans (bA.mono HB.out.size))
            have HSv : (fun Y : World => Y.cell? ⟨w.heap.size, 0, none⟩ = some (.int .i64 c.mru) ∧ Y.cell? ⟨w.heap.size, 1, none⟩ = some (.int .i64 c.auth) ∧ Y.cell? ⟨w.heap.size, 2, none⟩ = some (.int .i64 c.magic) ∧ Y.cell? ⟨w.heap.size, 3, none⟩ = some (.int .i64 c.echo) ∧ Y.cell? ⟨w.heap.size, 4, none⟩ = some (.int .i64 c.cf) ∧ Y.cell? ⟨w.heap.size, 5, none⟩ = some (.int .i64 c.tm) ∧ Y.cell? ⟨w.heap.size, 6, none⟩ = some (.int .i64 c.fl) ∧ Y.cell? ⟨w.heap.size, 7, none⟩ = some (.int .i64 c.wt)) W6 := HS.out _ HB.out
            have HI := Lib.hid ((bA.block _ (Array.getElem?_eq_some_iff.1 HI.out).1).trans HI.out)
            refine hK _ _ (fun _ => HSv) ?_
            try simp only [Act.put, List.setIfInBounds_toArray, List.set_cons_zero, List.set_cons_succ]
            clear bA hz hW6 hrb
            refine wpAnyH_at 14 (v := ?vv123) rfl (by kernel_rfl) (by kernel_rfl) (by kernel_rfl) (fun _ _ _ h => h) ?hy123 HSv ?hh123
            case hy123 =>
              refine Or.inl ⟨by rfl, ?_⟩
              intro W hW
              obtain ⟨h0, h1, h2, h3, h4, h5, h6, h7⟩ := hW
              go_simp
              try with_reducible rfl
            simp only [Act.put, List.setIfInBounds_toArray, List.set_cons_zero, List.set_cons_succ]
            refine wpAnyH_1 17 rfl (by kernel_rfl) ?_
            intro K hK
            rw [if_pos (by rfl)]
            try go_simp
            go_at_call 34
            refine (HNN.out lb W6 sA _ cA rb ib).mono ?_
            rintro e wE ⟨rfl, bE⟩
            have HN := Lib.hid (HB.out.trans (bE.mono HB.out.size))
            have HSv : (fun Y : World => Y.cell? ⟨w.heap.size, 0, none⟩ = some (.int .i64 c.mru) ∧ Y.cell? ⟨w.heap.size, 1, none⟩ = some (.int .i64 c.auth) ∧ Y.cell? ⟨w.heap.size, 2, none⟩ = some (.int .i64 c.magic) ∧ Y.cell? ⟨w.heap.size, 3, none⟩ = some (.int .i64 c.echo) ∧ Y.cell? ⟨w.heap.size, 4, none⟩ = some (.int .i64 c.cf) ∧ Y.cell? ⟨w.heap.size, 5, none⟩ = some (.int .i64 c.tm) ∧ Y.cell? ⟨w.heap.size, 6, none⟩ = some (.int .i64 c.fl) ∧ Y.cell? ⟨w.heap.size, 7, none⟩ = some (.int .i64 c.wt)) wE := HS.out _ HN.out
            clear bE
            refine hK _ _ (fun _ => HSv) ?_
            try simp only [Act.put, List.setIfInBounds_toArray, List.set_cons_zero, List.set_cons_succ]
            refine wpAnyH_at 18 (v := ?vv124) rfl (by kernel_rfl) (by kernel_rfl) (by kernel_rfl) (fun _ _ _ h => h) ?hy124 HSv ?hh124
            case hy124 =>
              refine Or.inl ⟨by rfl, ?_⟩
              intro W hW
              obtain ⟨h0, h1, h2, h3, h4, h5, h6, h7⟩ := hW
              go_simp
              try with_reducible rfl
            simp only [Act.put, List.setIfInBounds_toArray, List.set_cons_zero, List.set_cons_succ]
            refine wpAnyH_at 19 (v := ?vv125) rfl (by kernel_rfl) (by kernel_rfl) (by kernel_rfl) (fun _ _ _ h => h) ?hy125 HSv ?hh125
            case hy125 =>
              refine Or.inl ⟨by rfl, ?_⟩
              intro W hW
              obtain ⟨h0, h1, h2, h3, h4, h5, h6, h7⟩ := hW
              go_simp
              try with_reducible rfl
            simp only [Act.put, List.setIfInBounds_toArray, List.set_cons_zero, List.set_cons_succ]
            refine wpAnyH_at 21 (v := ?vv126) rfl (by kernel_rfl) (by kernel_rfl) (by kernel_rfl) (fun _ _ _ h => h) ?hy126 HSv ?hh126
            case hy126 =>
              refine Or.inl ⟨by rfl, ?_⟩
              intro W hW
              obtain ⟨h0, h1, h2, h3, h4, h5, h6, h7⟩ := hW
              go_simp
              try with_reducible rfl
            simp only [Act.put, List.setIfInBounds_toArray, List.set_cons_zero, List.set_cons_succ]
            refine wpAnyH_at 20 (v := ?vv127) rfl (by kernel_rfl) (by kernel_rfl) (by kernel_rfl) (fun _ _ _ h => h) ?hy127 HSv ?hh127
            case hy127 =>
              refine Or.inl ⟨by rfl, ?_⟩
              intro W hW
              obtain ⟨h0, h1, h2, h3, h4, h5, h6, h7⟩ := hW
              go_simp
              try with_reducible rfl
            simp only [Act.put, List.setIfInBounds_toArray, List.set_cons_zero, List.set_cons_succ]
            refine wpAnyH_at 22 (v := ?vv128) rfl (by kernel_rfl) (by kernel_rfl) (by kernel_rfl) (fun _ _ _ h => h) ?hy128 HSv ?hh128
            case hy128 =>
              refine Or.inl ⟨by rfl, ?_⟩
              intro W hW
              obtain ⟨h0, h1, h2, h3, h4, h5, h6, h7⟩ := hW
              go_simp
              try with_reducible rfl
            simp only [Act.put, List.setIfInBounds_toArray, List.set_cons_zero, List.set_cons_succ]
            refine wpAnyH_end 23 (fun j hj => rgH_end _ _ j (by omega)) (by rfl) (by kernel_rfl) ?_
            simp only [List.drop_succ_cons, List.drop_zero]
            clear HSv
            go_wp2_with fail
            go_ret2
            exact ⟨rfl, HZ.out.2.2.1.trans (HN.out.mono HZ.out.2.2.1.size)⟩
        · intro K hK
          rw [if_pos (by rfl)]
          try go_simp
          have bA : Below W3.heap.size W3 (W3.alloc (.cells #[.int .i64 3] 3 (0, 0))) := (Below.refl _ _).alloc (Nat.le_refl _) _
          have hz := at1 W3 (.cells #[.int .i64 3] 3 (0, 0))
          generalize hW4 : W3.alloc (.cells #[.int .i64 3] 3 (0, 0)) = W4 at bA hz ⊢
          obtain ⟨ib, hib⟩ : ∃ ib, ib = W3.heap.size := ⟨_, rfl⟩
          rw [← hib] at hz ⊢
          have HI := Lib.hid hz
          have HR := Lib.hid (HR.out.below bA)
          have HB := Lib.hid (HB.out.trans (bA.mono HB.out.size))
          have HSv : (fun Y : World => Y.cell? ⟨w.heap.size, 0, none⟩ = some (.int .i64 c.mru) ∧ Y.cell? ⟨w.heap.size, 1, none⟩ = some (.int .i64 c.auth) ∧ Y.cell? ⟨w.heap.size, 2, none⟩ = some (.int .i64 c.magic) ∧ Y.cell? ⟨w.heap.size, 3, none⟩ = some (.int .i64 c.echo) ∧ Y.cell? ⟨w.heap.size, 4, none⟩ = some (.int .i64 c.cf) ∧ Y.cell? ⟨w.heap.size, 5, none⟩ = some (.int .i64 c.tm) ∧ Y.cell? ⟨w.heap.size, 6, none⟩ = some (.int .i64 c.fl) ∧ Y.cell? ⟨w.heap.size, 7, none⟩ = some (.int .i64 c.wt)) W4 := HS.out _ HB.out
          refine hK _ _ (fun _ => HSv) ?_
          try simp only [Act.put, List.setIfInBounds_toArray, List.set_cons_zero, List.set_cons_succ]
          clear bA hz hW4 hib
          refine wpAnyH_1 3 rfl (by kernel_rfl) ?_
          intro K hK
          rw [if_pos (by rfl)]
          try go_simp
          go_at_call 36
          refine (magics_any _).mono ?_
          rintro e W5 ⟨rfl, bA⟩
          have HR := Lib.hid (HR.out.below bA)
          have HB := Lib.hid (HB.out.trans (bA.mono HB.out.size))
          have HSv : (fun Y : World => Y.cell? ⟨w.heap.size, 0, none⟩ = some (.int .i64 c.mru) ∧ Y.cell? ⟨w.heap.size, 1, none⟩ = some (.int .i64 c.auth) ∧ Y.cell? ⟨w.heap.size, 2, none⟩ = some (.int .i64 c.magic) ∧ Y.cell? ⟨w.heap.size, 3, none⟩ = some (.int .i64 c.echo) ∧ Y.cell? ⟨w.heap.size, 4, none⟩ = some (.int .i64 c.cf) ∧ Y.cell? ⟨w.heap.size, 5, none⟩ = some (.int .i64 c.tm) ∧ Y.cell? ⟨w.heap.size, 6, none⟩ = some (.int .i64 c.fl) ∧ Y.cell? ⟨w.heap.size, 7, none⟩ = some (.int .i64 c.wt)) W5 := HS.out _ HB.out
          have HI := Lib.hid ((bA.block _ (Array.getElem?_eq_some_iff.1 HI.out).1).trans HI.out)
          refine hK _ _ (fun _ => HSv) ?_
          try simp only [Act.put, List.setIfInBounds_toArray, List.set_cons_zero, List.set_cons_succ]
          clear bA
          refine wpAnyH_1 4 rfl (by kernel_rfl) ?_
          intro K hK
          rw [if_pos (by rfl)]
          try go_simp
          have bA : Below W5.heap.size W5 (W5.alloc (.cells #[.int .i64 1, .int .i64 2, .int .i64 64, .int .i64 1492, .string (be2 1492), .int .i64 5, .int .i64 4, .int .i64 1, .int .i64 4294967295, .string (be4 1)] 73 (0, 0))) := (Below.refl _ _).alloc (Nat.le_refl _) _
          have hz := at1 W5 (.cells #[.int .i64 1, .int .i64 2, .int .i64 64, .int .i64 1492, .string (be2 1492), .int .i64 5, .int .i64 4, .int .i64 1, .int .i64 4294967295, .string (be4 1)] 73 (0, 0))
          generalize hW6 : W5.alloc (.cells #[.int .i64 1, .int .i64 2, .int .i64 64, .int .i64 1492, .string (be2 1492), .int .i64 5, .int .i64 4, .int .i64 1, .int .i64 4294967295, .string (be4 1)] 73 (0, 0)) = W6 at bA hz ⊢
          obtain ⟨rb, hrb⟩ : ∃ rb, rb = W5.heap.size := ⟨_, rfl⟩
          rw [← hrb] at hz ⊢
          have HRu := Lib.hid hz
          have HR := Lib.hid (HR.out.below bA)
          have HB := Lib.hid (HB.out.trans (bA.mono HB.out.size))
          have HSv : (fun Y : World => Y.cell? ⟨w.heap.size, 0, none⟩ = some (.int .i64 c.mru) ∧ Y.cell? ⟨w.heap.size, 1, none⟩ = some (.int .i64 c.auth) ∧ Y.cell? ⟨w.heap.size, 2, none⟩ = some (.int .i64 c.magic) ∧ Y.cell? ⟨w.heap.size, 3, none⟩ = some (.int .i64 c.echo) ∧ Y.cell? ⟨w.heap.size, 4, none⟩ = some (.int .i64 c.cf) ∧ Y.cell? ⟨w.heap.size, 5, none⟩ = some (.int .i64 c.tm) ∧ Y.cell? ⟨w.heap.size, 6, none⟩ = some (.int .i64 c.fl) ∧ Y.cell? ⟨w.heap.size, 7, none⟩ = some (.int .i64 c.wt)) W6 := HS.out _ HB.out
          have HI := Lib.hid ((bA.block _ (Array.getElem?_eq_some_iff.1 HI.out).1).trans HI.out)
          refine hK _ _ (fun _ => HSv) ?_
          try simp only [Act.put, List.setIfInBounds_toArray, List.set_cons_zero, List.set_cons_succ]
          clear bA hz hW6 hrb
          refine wpAnyH_at 14 (v := ?vv129) rfl (by kernel_rfl) (by kernel_rfl) (by kernel_rfl) (fun _ _ _ h => h) ?hy129 HSv ?hh129
          case hy129 =>
            refine Or.inl ⟨by rfl, ?_⟩
            intro W hW
            obtain ⟨h0, h1, h2, h3, h4, h5, h6, h7⟩ := hW
            go_simp
            try with_reducible rfl
          simp only [Act.put, List.setIfInBounds_toArray, List.set_cons_zero, List.set_cons_succ]
          refine wpAnyH_1 17 rfl (by kernel_rfl) ?_
          intro K hK
          rw [if_pos (by rfl)]
          try go_simp
          go_at_call 34
          refine (HNN.out lb W6 sA _ cA rb ib).mono ?_
          rintro e wE ⟨rfl, bE⟩
          have HN := Lib.hid (HB.out.trans (bE.mono HB.out.size))
          have HSv : (fun Y : World => Y.cell? ⟨w.heap.size, 0, none⟩ = some (.int .i64 c.mru) ∧ Y.cell? ⟨w.heap.size, 1, none⟩ = some (.int .i64 c.auth) ∧ Y.cell? ⟨w.heap.size, 2, none⟩ = some (.int .i64 c.magic) ∧ Y.cell? ⟨w.heap.size, 3, none⟩ = some (.int .i64 c.echo) ∧ Y.cell? ⟨w.heap.size, 4, none⟩ = some (.int .i64 c.cf) ∧ Y.cell? ⟨w.heap.size, 5, none⟩ = some (.int .i64 c.tm) ∧ Y.cell? ⟨w.heap.size, 6, none⟩ = some (.int .i64 c.fl) ∧ Y.cell? ⟨w.heap.size, 7, none⟩ = some (.int .i64 c.wt)) wE := HS.out _ HN.out
          clear bE
          refine hK _ _ (fun _ => HSv) ?_
          try simp only [Act.put, List.setIfInBounds_toArray, List.set_cons_zero, List.set_cons_succ]
          refine wpAnyH_at 18 (v := ?vv130) rfl (by kernel_rfl) (by kernel_rfl) (by kernel_rfl) (fun _ _ _ h => h) ?hy130 HSv ?hh130
          case hy130 =>
            refine Or.inl ⟨by rfl, ?_⟩
            intro W hW
            obtain ⟨h0, h1, h2, h3, h4, h5, h6, h7⟩ := hW
            go_simp
            try with_reducible rfl
          simp only [Act.put, List.setIfInBounds_toArray, List.set_cons_zero, List.set_cons_succ]
          refine wpAnyH_at 19 (v := ?vv131) rfl (by kernel_rfl) (by kernel_rfl) (by kernel_rfl) (fun _ _ _ h => h) ?hy131 HSv ?hh131
          case hy131 =>
            refine Or.inl ⟨by rfl, ?_⟩
            intro W hW
            obtain ⟨h0, h1, h2, h3, h4, h5, h6, h7⟩ := hW
            go_simp
            try with_reducible rfl
          simp only [Act.put, List.setIfInBounds_toArray, List.set_cons_zero, List.set_cons_succ]
          refine wpAnyH_at 21 (v := ?vv132) rfl (by kernel_rfl) (by kernel_rfl) (by kernel_rfl) (fun _ _ _ h => h) ?hy132 HSv ?hh132
          case hy132 =>
            refine Or.inl ⟨by rfl, ?_⟩
            intro W hW
            obtain ⟨h0, h1, h2, h3, h4, h5, h6, h7⟩ := hW
            go_simp
            try with_reducible rfl
          simp only [Act.put, List.setIfInBounds_toArray, List.set_cons_zero, List.set_cons_succ]
          refine wpAnyH_at 20 (v := ?vv133) rfl (by kernel_rfl) (by kernel_rfl) (by kernel_rfl) (fun _ _ _ h => h) ?hy133 HSv ?hh133
          case hy133 =>
            refine Or.inl ⟨by rfl, ?_⟩
            intro W hW
            obtain ⟨h0, h1, h2, h3, h4, h5, h6, h7⟩ := hW
            go_simp
            try with_reducible rfl
          simp only [Act.put, List.setIfInBounds_toArray, List.set_cons_zero, List.set_cons_succ]
          refine wpAnyH_at 22 (v := ?vv134) rfl (by kernel_rfl) (by kernel_rfl) (by kernel_rfl) (fun _ _ _ h => h) ?hy134 HSv ?hh134
          case hy134 =>
            refine Or.inl ⟨by rfl, ?_⟩
            intro W hW
            obtain ⟨h0, h1, h2, h3, h4, h5, h6, h7⟩ := hW
            go_simp
            try with_reducible rfl
          simp only [Act.put, List.setIfInBounds_toArray, List.set_cons_zero, List.set_cons_succ]
          refine wpAnyH_end 23 (fun j hj => rgH_end _ _ j (by omega)) (by rfl) (by kernel_rfl) ?_
          simp only [List.drop_succ_cons, List.drop_zero]
          clear HSv
          go_wp2_with fail
          go_ret2
          exact ⟨rfl, HZ.out.2.2.1.trans (HN.out.mono HZ.out.2.2.1.size)⟩
      · intro K hK
        rw [if_pos (by rfl)]
        try go_simp
        have bA : Below W2.heap.size W2 (W2.alloc (.cells #[.int .i64 3] 3 (0, 0))) := (Below.refl _ _).alloc (Nat.le_refl _) _
        have hz := at1 W2 (.cells #[.int .i64 3] 3 (0, 0))
        generalize hW3 : W2.alloc (.cells #[.int .i64 3] 3 (0, 0)) = W3 at bA hz ⊢
        obtain ⟨ib, hib⟩ : ∃ ib, ib = W2.heap.size := ⟨_, rfl⟩
        rw [← hib] at hz ⊢
        have HI := Lib.hid hz
        have HR := Lib.hid (HR.out.below bA)
        have HB := Lib.hid (HB.out.trans (bA.mono HB.out.size))
        have HSv : (fun Y : World => Y.cell? ⟨w.heap.size, 0, none⟩ = some (.int .i64 c.mru) ∧ Y.cell? ⟨w.heap.size, 1, none⟩ = some (.int .i64 c.auth) ∧ Y.cell? ⟨w.heap.size, 2, none⟩ = some (.int .i64 c.magic) ∧ Y.cell? ⟨w.heap.size, 3, none⟩ = some (.int .i64 c.echo) ∧ Y.cell? ⟨w.heap.size, 4, none⟩ = some (.int .i64 c.cf) ∧ Y.cell? ⟨w.heap.size, 5, none⟩ = some (.int .i64 c.tm) ∧ Y.cell? ⟨w.heap.size, 6, none⟩ = some (.int .i64 c.fl) ∧ Y.cell? ⟨w.heap.size, 7, none⟩ = some (.int .i64 c.wt)) W3 := HS.out _ HB.out
        refine hK _ _ (fun _ => HSv) ?_
        try simp only [Act.put, List.setIfInBounds_toArray, List.set_cons_zero, List.set_cons_succ]
        clear bA hz hW3 hib
        refine wpAnyH_1 2 rfl (by kernel_rfl) ?_
        intro K hK
        rw [if_pos (by rfl)]
        try go_simp
        go_at_call 35
        refine (units_any 1492 _).mono ?_
        rintro e W4 ⟨rfl, bA⟩
        have HR := Lib.hid (HR.out.below bA)
        have HB := Lib.hid (HB.out.trans (bA.mono HB.out.size))
        have HSv : (fun Y : World => Y.cell? ⟨w.heap.size, 0, none⟩ = some (.int .i64 c.mru) ∧ Y.cell? ⟨w.heap.size, 1, none⟩ = some (.int .i64 c.auth) ∧ Y.cell? ⟨w.heap.size, 2, none⟩ = some (.int .i64 c.magic) ∧ Y.cell? ⟨w.heap.size, 3, none⟩ = some (.int .i64 c.echo) ∧ Y.cell? ⟨w.heap.size, 4, none⟩ = some (.int .i64 c.cf) ∧ Y.cell? ⟨w.heap.size, 5, none⟩ = some (.int .i64 c.tm) ∧ Y.cell? ⟨w.heap.size, 6, none⟩ = some (.int .i64 c.fl) ∧ Y.cell? ⟨w.heap.size, 7, none⟩ = some (.int .i64 c.wt)) W4 := HS.out _ HB.out
        have HI := Lib.hid ((bA.block _ (Array.getElem?_eq_some_iff.1 HI.out).1).trans HI.out)
        refine hK _ _ (fun _ => HSv) ?_
        try simp only [Act.put, List.setIfInBounds_toArray, List.set_cons_zero, List.set_cons_succ]
        clear bA
        refine wpAnyH_1 3 rfl (by kernel_rfl) ?_
        intro K hK
        rw [if_pos (by rfl)]
        try go_simp
        go_at_call 36
        refine (magics_any _).mono ?_
        rintro e W5 ⟨rfl, bA⟩
        have HR := Lib.hid (HR.out.below bA)
        have HB := Lib.hid (HB.out.trans (bA.mono HB.out.size))
        have HSv : (fun Y : World => Y.cell? ⟨w.heap.size, 0, none⟩ = some (.int .i64 c.mru) ∧ Y.cell? ⟨w.heap.size, 1, none⟩ = some (.int .i64 c.auth) ∧ Y.cell? ⟨w.heap.size, 2, none⟩ = some (.int .i64 c.magic) ∧ Y.cell? ⟨w.heap.size, 3, none⟩ = some (.int .i64 c.echo) ∧ Y.cell? ⟨w.heap.size, 4, none⟩ = some (.int .i64 c.cf) ∧ Y.cell? ⟨w.heap.size, 5, none⟩ = some (.int .i64 c.tm) ∧ Y.cell? ⟨w.heap.size, 6, none⟩ = some (.int .i64 c.fl) ∧ Y.cell? ⟨w.heap.size, 7, none⟩ = some (.int .i64 c.wt)) W5 := HS.out _ HB.out
        have HI := Lib.hid ((bA.block _ (Array.getElem?_eq_some_iff.1 HI.out).1).trans HI.out)
        refine hK _ _ (fun _ => HSv) ?_
        try simp only [Act.put, List.setIfInBounds_toArray, List.set_cons_zero, List.set_cons_succ]
        clear bA
        refine wpAnyH_1 4 rfl (by kernel_rfl) ?_
        intro K hK
        rw [if_pos (by rfl)]
        try go_simp
        have bA : Below W5.heap.size W5 (W5.alloc (.cells #[.int .i64 1, .int .i64 2, .int .i64 64, .int .i64 1492, .string (be2 1492), .int .i64 5, .int .i64 4, .int .i64 1, .int .i64 4294967295, .string (be4 1)] 73 (0, 0))) := (Below.refl _ _).alloc (Nat.le_refl _) _
        have hz := at1 W5 (.cells #[.int .i64 1, .int .i64 2, .int .i64 64, .int .i64 1492, .string (be2 1492), .int .i64 5, .int .i64 4, .int .i64 1, .int .i64 4294967295, .string (be4 1)] 73 (0, 0))
        generalize hW6 : W5.alloc (.cells #[.int .i64 1, .int .i64 2, .int .i64 64, .int .i64 1492, .string (be2 1492), .int .i64 5, .int .i64 4, .int .i64 1, .int .i64 4294967295, .string (be4 1)] 73 (0, 0)) = W6 at bA hz ⊢
        obtain ⟨rb, hrb⟩ : ∃ rb, rb = W5.heap.size := ⟨_, rfl⟩
        rw [← hrb] at hz ⊢
        have HRu := Lib.hid hz
        have HR := Lib.hid (HR.out.below bA)
        have HB := Lib.hid (HB.out.trans (bA.mono HB.out.size))
        have HSv : (fun Y : World => Y.cell? ⟨w.heap.size, 0, none⟩ = some (.int .i64 c.mru) ∧ Y.cell? ⟨w.heap.size, 1, none⟩ = some (.int .i64 c.auth) ∧ Y.cell? ⟨w.heap.size, 2, none⟩ = some (.int .i64 c.magic) ∧ Y.cell? ⟨w.heap.size, 3, none⟩ = some (.int .i64 c.echo) ∧ Y.cell? ⟨w.heap.size, 4, none⟩ = some (.int .i64 c.cf) ∧ Y.cell? ⟨w.heap.size, 5, none⟩ = some (.int .i64 c.tm) ∧ Y.cell? ⟨w.heap.size, 6, none⟩ = some (.int .i64 c.fl) ∧ Y.cell? ⟨w.heap.size, 7, none⟩ = some (.int .i64 c.wt)) W6 := HS.out _ HB.out
        have HI := Lib.hid ((bA.block _ (Array.getElem?_eq_some_iff.1 HI.out).1).trans HI.out)
        refine hK _ _ (fun _ => HSv) ?_
        try simp only [Act.put, List.setIfInBounds_toArray, List.set_cons_zero, List.set_cons_succ]
        clear bA hz hW6 hrb
        refine wpAnyH_at 14 (v := ?vv135) rfl (by kernel_rfl) (by kernel_rfl) (by kernel_rfl) (fun _ _ _ h => h) ?hy135 HSv ?hh135
        case hy135 =>
          refine Or.inl ⟨by rfl, ?_⟩
          intro W hW
          obtain ⟨h0, h1, h2, h3, h4, h5, h6, h7⟩ := hW
          go_simp
          try with_reducible rfl
        simp only [Act.put, List.setIfInBounds_toArray, List.set_cons_zero, List.set_cons_succ]
        refine wpAnyH_1 17 rfl (by kernel_rfl) ?_
        intro K hK
        rw [if_pos (by rfl)]
        try go_simp
        go_at_call 34
        refine (HNN.out lb W6 sA _ cA rb ib).mono ?_
        rintro e wE ⟨rfl, bE⟩
        have HN := Lib.hid (HB.out.trans (bE.mono HB.out.size))
        have HSv : (fun Y : World => Y.cell? ⟨w.heap.size, 0, none⟩ = some (.int .i64 c.mru) ∧ Y.cell? ⟨w.heap.size, 1, none⟩ = some (.int .i64 c.auth) ∧ Y.cell? ⟨w.heap.size, 2, none⟩ = some (.int .i64 c.magic) ∧ Y.cell? ⟨w.heap.size, 3, none⟩ = some (.int .i64 c.echo) ∧ Y.cell? ⟨w.heap.size, 4, none⟩ = some (.int .i64 c.cf) ∧ Y.cell? ⟨w.heap.size, 5, none⟩ = some (.int .i64 c.tm) ∧ Y.cell? ⟨w.heap.size, 6, none⟩ = some (.int .i64 c.fl) ∧ Y.cell? ⟨w.heap.size, 7, none⟩ = some (.int .i64 c.wt)) wE := HS.out _ HN.out
        clear bE
        refine hK _ _ (fun _ => HSv) ?_
        try simp only [Act.put, List.setIfInBounds_toArray, List.set_cons_zero, List.set_cons_succ]
        refine wpAnyH_at 18 (v := ?vv136) rfl (by kernel_rfl) (by kernel_rfl) (by kernel_rfl) (fun _ _ _ h => h) ?hy136 HSv ?hh136
        case hy136 =>
          refine Or.inl ⟨by rfl, ?_⟩
          intro W hW
          obtain ⟨h0, h1, h2, h3, h4, h5, h6, h7⟩ := hW
          go_simp
          try with_reducible rfl
        simp only [Act.put, List.setIfInBounds_toArray, List.set_cons_zero, List.set_cons_succ]
        refine wpAnyH_at 19 (v := ?vv137) rfl (by kernel_rfl) (by kernel_rfl) (by kernel_rfl) (fun _ _ _ h => h) ?hy137 HSv ?hh137
        case hy137 =>
          refine Or.inl ⟨by rfl, ?_⟩
          intro W hW
          obtain ⟨h0, h1, h2, h3, h4, h5, h6, h7⟩ := hW
          go_simp
          try with_reducible rfl
        simp only [Act.put, List.setIfInBounds_toArray, List.set_cons_zero, List.set_cons_succ]
        refine wpAnyH_at 21 (v := ?vv138) rfl (by kernel_rfl) (by kernel_rfl) (by kernel_rfl) (fun _ _ _ h => h) ?hy138 HSv ?hh138
        case hy138 =>
          refine Or.inl ⟨by rfl, ?_⟩
          intro W hW
          obtain ⟨h0, h1, h2, h3, h4, h5, h6, h7⟩ := hW
          go_simp
          try with_reducible rfl
        simp only [Act.put, List.setIfInBounds_toArray, List.set_cons_zero, List.set_cons_succ]
        refine wpAnyH_at 20 (v := ?vv139) rfl (by kernel_rfl) (by kernel_rfl) (by kernel_rfl) (fun _ _ _ h => h) ?hy139 HSv ?hh139
        case hy139 =>
          refine Or.inl ⟨by rfl, ?_⟩
          intro W hW
          obtain ⟨h0, h1, h2, h3, h4, h5, h6, h7⟩ := hW
          go_simp
          try with_reducible rfl
        simp only [Act.put, List.setIfInBounds_toArray, List.set_cons_zero, List.set_cons_succ]
        refine wpAnyH_at 22 (v := ?vv140) rfl (by kernel_rfl) (by kernel_rfl) (by kernel_rfl) (fun _ _ _ h => h) ?hy140 HSv ?hh140
        case hy140 =>
          refine Or.inl ⟨by rfl, ?_⟩
          intro W hW
          obtain ⟨h0, h1, h2, h3, h4, h5, h6, h7⟩ := hW
          go_simp
          try with_reducible rfl
        simp only [Act.put, List.setIfInBounds_toArray, List.set_cons_zero, List.set_cons_succ]
        refine wpAnyH_end 23 (fun j hj => rgH_end _ _ j (by omega)) (by rfl) (by kernel_rfl) ?_
        simp only [List.drop_succ_cons, List.drop_zero]
        clear HSv
        go_wp2_with fail
        go_ret2
        exact ⟨rfl, HZ.out.2.2.1.trans (HN.out.mono HZ.out.2.2.1.size)⟩
    · intro K hK
      rw [if_pos (by rfl)]
      try go_simp
      have bA : Below W.heap.size W (W.alloc (.cells #[.int .i64 3] 3 (0, 0))) := (Below.refl _ _).alloc (Nat.le_refl _) _
      have hz := at1 W (.cells #[.int .i64 3] 3 (0, 0))
      generalize hW2 : W.alloc (.cells #[.int .i64 3] 3 (0, 0)) = W2 at bA hz ⊢
      obtain ⟨ib, hib⟩ : ∃ ib, ib = W.heap.size := ⟨_, rfl⟩
      rw [← hib] at hz ⊢
      have HI := Lib.hid hz
      have HB := Lib.hid (HB.out.trans (bA.mono HB.out.size))
      have HSv : (fun Y : World => Y.cell? ⟨w.heap.size, 0, none⟩ = some (.int .i64 c.mru) ∧ Y.cell? ⟨w.heap.size, 1, none⟩ = some (.int .i64 c.auth) ∧ Y.cell? ⟨w.heap.size, 2, none⟩ = some (.int .i64 c.magic) ∧ Y.cell? ⟨w.heap.size, 3, none⟩ = some (.int .i64 c.echo) ∧ Y.cell? ⟨w.heap.size, 4, none⟩ = some (.int .i64 c.cf) ∧ Y.cell? ⟨w.heap.size, 5, none⟩ = some (.int .i64 c.tm) ∧ Y.cell? ⟨w.heap.size, 6, none⟩ = some (.int .i64 c.fl) ∧ Y.cell? ⟨w.heap.size, 7, none⟩ = some (.int .i64 c.wt)) W2 := HS.out _ HB.out
      refine hK _ _ (fun _ => HSv) ?_
      try simp only [Act.put, List.setIfInBounds_toArray, List.set_cons_zero, List.set_cons_succ]
      clear bA hz hW2 hib
      refine wpAnyH_1 1 rfl (by kernel_rfl) ?_
      intro K hK
      rw [if_pos (by rfl)]
      try go_simp
      go_at_call 18
      refine (HLO.out _).mono ?_
      rintro e W3 ⟨vA, rfl, rA, bA⟩
      obtain ⟨sA, cA, rfl⟩ := rA.form
      have HR := Lib.hid (rA.base HB.out.size)
      have HB := Lib.hid (HB.out.trans (bA.mono HB.out.size))
      have HSv : (fun Y : World => Y.cell? ⟨w.heap.size, 0, none⟩ = some (.int .i64 c.mru) ∧ Y.cell? ⟨w.heap.size, 1, none⟩ = some (.int .i64 c.auth) ∧ Y.cell? ⟨w.heap.size, 2, none⟩ = some (.int .i64 c.magic) ∧ Y.cell? ⟨w.heap.size, 3, none⟩ = some (.int .i64 c.echo) ∧ Y.cell? ⟨w.heap.size, 4, none⟩ = some (.int .i64 c.cf) ∧ Y.cell? ⟨w.heap.size, 5, none⟩ = some (.int .i64 c.tm) ∧ Y.cell? ⟨w.heap.size, 6, none⟩ = some (.int .i64 c.fl) ∧ Y.cell? ⟨w.heap.size, 7, none⟩ = some (.int .i64 c.wt)) W3 := HS.out _ HB.out
      have HI := Lib.hid ((bA.block _ (Array.getElem?_eq_some_iff.1 HI.out).1).trans HI.out)
      refine hK _ _ (fun _ => HSv) ?_
      try simp only [Act.put, List.setIfInBounds_toArray, List.set_cons_zero, List.set_cons_succ]
      clear rA bA
      refine wpAnyH_1 2 rfl (by kernel_rfl) ?_
      intro K hK
      rw [if_pos (by rfl)]
      try go_simp
      go_at_call 35
      refine (units_any 1492 _).mono ?_
      rintro e W4 ⟨rfl, bA⟩
      have HR := Lib.hid (HR.out.below bA)
      have HB := Lib.hid (HB.out.trans (bA.mono HB.out.size))
      have HSv : (fun Y : World => Y.cell? ⟨w.heap.size, 0, none⟩ = some (.int .i64 c.mru) ∧ Y.cell? ⟨w.heap.size, 1, none⟩ = some (.int .i64 c.auth) ∧ Y.cell? ⟨w.heap.size, 2, none⟩ = some (.int .i64 c.magic) ∧ Y.cell? ⟨w.heap.size, 3, none⟩ = some (.int .i64 c.echo) ∧ Y.cell? ⟨w.heap.size, 4, none⟩ = some (.int .i64 c.cf) ∧ Y.cell? ⟨w.heap.size, 5, none⟩ = some (.int .i64 c.tm) ∧ Y.cell? ⟨w.heap.size, 6, none⟩ = some (.int .i64 c.fl) ∧ Y.cell? ⟨w.heap.size, 7, none⟩ = some (.int .i64 c.wt)) W4 := HS.out _ HB.out
      have HI := Lib.hid ((bA.block _ (Array.getElem?_eq_some_iff.1 HI.out).1).trans HI.out)
      refine hK _ _ (fun _ => HSv) ?_
      try simp only [Act.put, List.setIfInBounds_toArray, List.set_cons_zero, List.set_cons_succ]
      clear bA
      refine wpAnyH_1 3 rfl (by kernel_rfl) ?_
      intro K hK
      rw [if_pos (by rfl)]
      try go_simp
      go_at_call 36
      refine (magics_any _).mono ?_
      rintro e W5 ⟨rfl, bA⟩
      have HR := Lib.hid (HR.out.below bA)
      have HB := Lib.hid (HB.out.trans (bA.mono HB.out.size))
      have HSv : (fun Y : World => Y.cell? ⟨w.heap.size, 0, none⟩ = some (.int .i64 c.mru) ∧ Y.cell? ⟨w.heap.size, 1, none⟩ = some (.int .i64 c.auth) ∧ Y.cell? ⟨w.heap.size, 2, none⟩ = some (.int .i64 c.magic) ∧ Y.cell? ⟨w.heap.size, 3, none⟩ = some (.int .i64 c.echo) ∧ Y.cell? ⟨w.heap.size, 4, none⟩ = some (.int .i64 c.cf) ∧ Y.cell? ⟨w.heap.size, 5, none⟩ = some (.int .i64 c.tm) ∧ Y.cell? ⟨w.heap.size, 6, none⟩ = some (.int .i64 c.fl) ∧ Y.cell? ⟨w.heap.size, 7, none⟩ = some (.int .i64 c.wt)) W5 := HS.out _ HB.out
      have HI := Lib.hid ((bA.block _ (Array.getElem?_eq_some_iff.1 HI.out).1).trans HI.out)
      refine hK _ _ (fun _ => HSv) ?_
      try simp only [Act.put, List.setIfInBounds_toArray, List.set_cons_zero, List.set_cons_succ]
      clear bA
      refine wpAnyH_1 4 rfl (by kernel_rfl) ?_
      intro K hK
      rw [if_pos (by rfl)]
      try go_simp
      have bA : Below W5.heap.size W5 (W5.alloc (.cells #[.int .i64 1, .int .i64 2, .int .i64 64, .int .i64 1492, .string (be2 1492), .int .i64 5, .int .i64 4, .int .i64 1, .int .i64 4294967295, .string (be4 1)] 73 (0, 0))) := (Below.refl _ _).alloc (Nat.le_refl _) _
      have hz := at1 W5 (.cells #[.int .i64 1, .int .i64 2, .int .i64 64, .int .i64 1492, .string (be2 1492), .int .i64 5, .int .i64 4, .int .i64 1, .int .i64 4294967295, .string (be4 1)] 73 (0, 0))
      generalize hW6 : W5.alloc (.cells #[.int .i64 1, .int .i64 2, .int .i64 64, .int .i64 1492, .string (be2 1492), .int .i64 5, .int .i64 4, .int .i64 1, .int .i64 4294967295, .string (be4 1)] 73 (0, 0)) = W6 at bA hz ⊢
      obtain ⟨rb, hrb⟩ : ∃ rb, rb = W5.heap.size := ⟨_, rfl⟩
      rw [← hrb] at hz ⊢
      have HRu := Lib.hid hz
      have HR := Lib.hid (HR.out.below bA)
      have HB := Lib.hid (HB.out.trans (bA.mono HB.out.size))
      have HSv : (fun Y : World => Y.cell? ⟨w.heap.size, 0, none⟩ = some (.int .i64 c.mru) ∧ Y.cell? ⟨w.heap.size, 1, none⟩ = some (.int .i64 c.auth) ∧ Y.cell? ⟨w.heap.size, 2, none⟩ = some (.int .i64 c.magic) ∧ Y.cell? ⟨w.heap.size, 3, none⟩ = some (.int .i64 c.echo) ∧ Y.cell? ⟨w.heap.size, 4, none⟩ = some (.int .i64 c.cf) ∧ Y.cell? ⟨w.heap.size, 5, none⟩ = some (.int .i64 c.tm) ∧ Y.cell? ⟨w.heap.size, 6, none⟩ = some (.int .i64 c.fl) ∧ Y.cell? ⟨w.heap.size, 7, none⟩ = some (.int .i64 c.wt)) W6 := HS.out _ HB.out
      have HI := Lib.hid ((bA.block _ (Array.getElem?_eq_some_iff.1 HI.out).1).trans HI.out)
      refine hK _ _ (fun _ => HSv) ?_
      try simp only [Act.put, List.setIfInBounds_toArray, List.set_cons_zero, List.set_cons_succ]
      clear bA hz hW6 hrb
      refine wpAnyH_at 14 (v := ?vv141) rfl (by kernel_rfl) (by kernel_rfl) (by kernel_rfl) (fun _ _ _ h => h) ?hy141 HSv ?hh141
      case hy141 =>
        refine Or.inl ⟨by rfl, ?_⟩
        intro W hW
        obtain ⟨h0, h1, h2, h3, h4, h5, h6, h7⟩ := hW
        go_simp
        try with_reducible rfl
      simp only [Act.put, List.setIfInBounds_toArray, List.set_cons_zero, List.set_cons_succ]
      refine wpAnyH_1 17 rfl (by kernel_rfl) ?_
      intro K hK
      rw [if_pos (by rfl)]
      try go_simp
      go_at_call 34
      refine (HNN.out lb W6 sA _ cA rb ib).mono ?_
      rintro e wE ⟨rfl, bE⟩
      have HN := Lib.hid (HB.out.trans (bE.mono HB.out.size))
      have HSv : (fun Y : World => Y.cell? ⟨w.heap.size, 0, none⟩ = some (.int .i64 c.mru) ∧ Y.cell? ⟨w.heap.size, 1, none⟩ = some (.int .i64 c.auth) ∧ Y.cell? ⟨w.heap.size, 2, none⟩ = some (.int .i64 c.magic) ∧ Y.cell? ⟨w.heap.size, 3, none⟩ = some (.int .i64 c.echo) ∧ Y.cell? ⟨w.heap.size, 4, none⟩ = some (.int .i64 c.cf) ∧ Y.cell? ⟨w.heap.size, 5, none⟩ = some (.int .i64 c.tm) ∧ Y.cell? ⟨w.heap.size, 6, none⟩ = some (.int .i64 c.fl) ∧ Y.cell? ⟨w.heap.size, 7, none⟩ = some (.int .i64 c.wt)) wE := HS.out _ HN.out
      clear bE
      refine hK _ _ (fun _ => HSv) ?_
      try simp only [Act.put, List.setIfInBounds_toArray, List.set_cons_zero, List.set_cons_succ]
      refine wpAnyH_at 18 (v := ?vv142) rfl (by kernel_rfl) (by kernel_rfl) (by kernel_rfl) (fun _ _ _ h => h) ?hy142 HSv ?hh142
      case hy142 =>
        refine Or.inl ⟨by rfl, ?_⟩
        intro W hW
        obtain ⟨h0, h1, h2, h3, h4, h5, h6, h7⟩ := hW
        go_simp
        try with_reducible rfl
      simp only [Act.put, List.setIfInBounds_toArray, List.set_cons_zero, List.set_cons_succ]
      refine wpAnyH_at 19 (v := ?vv143) rfl (by kernel_rfl) (by kernel_rfl) (by kernel_rfl) (fun _ _ _ h => h) ?hy143 HSv ?hh143
      case hy143 =>
        refine Or.inl ⟨by rfl, ?_⟩
        intro W hW
        obtain ⟨h0, h1, h2, h3, h4, h5, h6, h7⟩ := hW
        go_simp
        try with_reducible rfl
      simp only [Act.put, List.setIfInBounds_toArray, List.set_cons_zero, List.set_cons_succ]
      refine wpAnyH_at 21 (v := ?vv144) rfl (by kernel_rfl) (by kernel_rfl) (by kernel_rfl) (fun _ _ _ h => h) ?hy144 HSv ?hh144
      case hy144 =>
        refine Or.inl ⟨by rfl, ?_⟩
        intro W hW
        obtain ⟨h0, h1, h2, h3, h4, h5, h6, h7⟩ := hW
        go_simp
        try with_reducible rfl
      simp only [Act.put, List.setIfInBounds_toArray, List.set_cons_zero, List.set_cons_succ]
      refine wpAnyH_at 20 (v := ?vv145) rfl (by kernel_rfl) (by kernel_rfl) (by kernel_rfl) (fun _ _ _ h => h) ?hy145 HSv ?hh145
      case hy145 =>
        refine Or.inl ⟨by rfl, ?_⟩
        intro W hW
        obtain ⟨h0, h1, h2, h3, h4, h5, h6, h7⟩ := hW
        go_simp
        try with_reducible rfl
      simp only [Act.put, List.setIfInBounds_toArray, List.set_cons_zero, List.set_cons_succ]
      refine wpAnyH_at 22 (v := ?vv146) rfl (by kernel_rfl) (by kernel_rfl) (by kernel_rfl) (fun _ _ _ h => h) ?hy146 HSv ?hh146
      case hy146 =>
        refine Or.inl ⟨by rfl, ?_⟩
        intro W hW
        obtain ⟨h0, h1, h2, h3, h4, h5, h6, h7⟩ := hW
        go_simp
        try with_reducible rfl
      simp only [Act.put, List.setIfInBounds_toArray, List.set_cons_zero, List.set_cons_succ]
      refine wpAnyH_end 23 (fun j hj => rgH_end _ _ j (by omega)) (by rfl) (by kernel_rfl) ?_
      simp only [List.drop_succ_cons, List.drop_zero]
      clear HSv
      go_wp2_with fail
      go_ret2
      exact ⟨rfl, HZ.out.2.2.1.trans (HN.out.mono HZ.out.2.2.1.size)⟩
end Go.Proofs.YthhdackaopaojaaGreat
