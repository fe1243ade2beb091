import Derived.Test.YthhdackaopaojaaGreatK18
import Derived.Test.YthhdackaopaojaaGreatK9
/- A tape; what is asked for. -/
namespace Go.Proofs.YthhdackaopaojaaGreat
open Go.RowKit Go.Tg Go.Maps

set_option maxHeartbeats 1000000 in
theorem tapeNew_any (l : List Int) (lv : Value) (okp : Nat → Prop) (w : World) (hn : Nums w okp lv l) (hi : ∀ x ∈ l, I64 x) (hl : l.length ≤ 1000000) :
    Calls Tryz.prog 13 #[lv] w fun e w' => ∃ tb, e = .returned (.pointer (some ⟨tb, 0, none⟩)) ∧ TapeAt w' tb (fun b => w.heap.size ≤ b ∧ b < tb) ⟨l, 0⟩ ∧ w.heap.size ≤ tb ∧ Below w.heap.size w w' := by
  have HC := Lib.hid (cloneN_any l lv okp w hn hl)
  have HI := Lib.hid (And.intro hi hl)
  clear hn hi hl
  go_enter Tryz.func13, Tryz.ntmps13
  go_wp2_with (go_at_call 38; refine HC.out.mono ?_; rintro e w1 ⟨v, rfl, hr, hb⟩
               obtain ⟨sa, c, rfl, h1, h2⟩ := (hr.nums (by have := HI.out.2; unfold maxLen; omega)).form
               have HR := Lib.hid (And.intro hr hb); clear hr hb h1 h2)
  go_ret
  have hb2 := (Below.refl w1.heap.size w1).alloc (Nat.le_refl _) (.cells #[.slice sa l.length c, .int .i64 0] 82 (0, 0))
  refine ⟨w1.heap.size, rfl, ⟨_, at1 w1 _, Rec.mono (Nums.below (Rec.old (HR.out.1.nums (by have := HI.out.2; unfold maxLen; omega))) hb2) (fun b hb => hb), HI.out.1, fun b hb => by have := hb.2; omega, (by show I64 0; unfold I64; decide), HI.out.2⟩, HR.out.2.size, HR.out.2.trans (hb2.mono HR.out.2.size)⟩

structure LCfg.Ok (c : LCfg) : Prop where
  mru : 64 ≤ c.mru ∧ c.mru ≤ 1492
  auth : c.auth = 0 ∨ c.auth = 49187 ∨ c.auth = 49699
  magic : 0 ≤ c.magic ∧ c.magic ≤ 4294967295
  echo : 0 ≤ c.echo ∧ c.echo ≤ 100
  cf : inB20 c.cf = true
  tm : inB20 c.tm = true
  fl : 0 ≤ c.fl ∧ c.fl ≤ 20
  wt : 1 ≤ c.wt ∧ c.wt ≤ 100
theorem optsS_ok (c : LCfg) (hc : c.auth = 0 ∨ c.auth = 49187 ∨ c.auth = 49699) : (∀ o ∈ optsS c, o.v.size ≤ 5) ∧ putE (optsS c) = 0 ∧ twiceP [] (optsS c) = false ∧ (optsS c).length ≤ 3 := by
  have h2 : ∀ x, (pB2 x).size = 2 := fun x => rfl
  have h4 : ∀ x, (pB4 x).size = 4 := fun x => rfl
  have h5 : papB.size = 2 := rfl
  have h6 : chapB.size = 3 := rfl
  unfold optsS optsS2 optsS1
  rcases hc with hc | hc | hc <;> rw [hc] <;> by_cases h1 : c.mru = 1492 <;> by_cases h3 : c.magic = 0 <;> simp [h1, h3, lvalS, putE, badO, twiceP, h2, h4, h5, h6]
end Go.Proofs.YthhdackaopaojaaGreat
