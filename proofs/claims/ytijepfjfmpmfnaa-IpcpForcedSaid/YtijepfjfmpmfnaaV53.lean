import Derived.Test.YtijepfjfmpmfnaaV52
/- The first call of chapter 17. -/
namespace Go.Proofs.Ytijepfjfmpmfnaa
open Go.RowKit Go.Tg Go.Maps

/-! ### The first call -/
def adA : Ad := ⟨10, 0, 0, 1⟩
def adB : Ad := ⟨10, 0, 0, 7⟩
def askI : List Opt := [⟨3, adA.s⟩]
def CI (jb : Nat) : NegC := ⟨[], srvR adB Ad.z Ad.z, [], 5, 2, 5, 3, ownJ jb⟩
def sI (s c id asked naks : Int) : NSt := ⟨s, c, id, asked, naks, 0, askI, [], [], 0, 0⟩
theorem eI1 (jb : Nat) : evS noR (CI jb) (st0 askI) 2 noCame = (sI 1 0 0 0 0, []) := by kernel_rfl
theorem eI2 (jb : Nat) : evS noR (CI jb) (sI 1 0 0 0 0) 0 noCame = (sI 6 4 1 1 0, [⟨1, 1, askI, noB⟩]) := by kernel_rfl
theorem eIJ : judgeS (srvR adB Ad.z Ad.z) [⟨3, ⟨#[0, 0, 0, 0]⟩⟩] = (3, [⟨3, adB.s⟩]) := by kernel_rfl
theorem eI3 (jb : Nat) : reqS noR (CI jb) (sI 6 4 1 1 0) ⟨1, 1, [⟨3, ⟨#[0, 0, 0, 0]⟩⟩], noB⟩ (3, [⟨3, adB.s⟩]) = (sI 6 4 1 1 1, [⟨3, 1, [⟨3, adB.s⟩], noB⟩]) := by kernel_rfl

theorem sayAll_less (rej : Pk → ByteArray) (B : NegB) (C : NegC) (c : Came) (po pa : Value) (xs : List Int) (h : ∀ a ∈ xs, 0 ≤ a ∧ a ≤ 12 ∧ a ≠ 11) : SayAll rej B C c po pa xs :=
  fun a ha ok => say_less rej B C ok c po pa a (h a ha).1 (h a ha).2.1 (h a ha).2.2
theorem nextL_7 : ∀ s ∈ [0, 1, 2, 3, 4, 5, 6, 7, 8, 9], ∀ a ∈ nextL s 7, a ≠ 11 := by decide
theorem sayAll_7 (rej : Pk → ByteArray) (B : NegB) (C : NegC) (c : Came) (po pa : Value) (s : Int) (hs : 0 ≤ s ∧ s ≤ 9) : SayAll rej B C c po pa (nextL s 7) := by
  refine sayAll_less rej B C c po pa _ (fun a ha => ?_)
  have h1 := nextL_bd s 7 a ha
  have h2 : s ∈ [0, 1, 2, 3, 4, 5, 6, 7, 8, 9] := by simp only [List.mem_cons, List.not_mem_nil, or_false]; omega
  exact ⟨h1.1, h1.2, nextL_7 s h2 a ha⟩

set_option maxHeartbeats 16000000 in
set_option maxRecDepth 100000 in
theorem alive17_any (w : World) : Calls Try.prog 21 #[] w fun e w' => e = .returned (.bool true) ∧ Below w.heap.size w w' := by
  have q1 : ∀ w a, (binOp .eql 23 (.pointer (some a)) (.pointer none)).run Try.prog w = .ok (.bool false) w := fun w a => by kernel_rfl
  have hS := server_any adA adB Ad.z Ad.z 5 2 5 3 w (by decide) (by decide) (by decide) (by decide)
  rw [show adA.v = .agg #[.int .u8 10, .int .u8 0, .int .u8 0, .int .u8 1] from rfl, show adB.v = .agg #[.int .u8 10, .int .u8 0, .int .u8 0, .int .u8 7] from rfl, ← adz] at hS
  have HS := Lib.hid hS
  have G1 := Lib.hid (fun w => good_any ⟨1, 0, 0, 0⟩ ⟨1, 0, 0, 0⟩ w)
  rw [show (Ad.mk 1 0 0 0).v = .agg #[.int .u8 1, .int .u8 0, .int .u8 0, .int .u8 0] from rfl, show goodS ⟨1, 0, 0, 0⟩ ⟨1, 0, 0, 0⟩ = true from rfl] at G1
  have G2 := Lib.hid (fun w => good_any Ad.z Ad.z w)
  rw [← adz, show goodS Ad.z Ad.z = false from rfl] at G2
  clear hS
  go_enter Try.func21, Try.ntmps21
  go_wp2_with fail
  refine HS.out.mono ?_
  rintro e w1 ⟨v, rfl, B, jb, rfl, hv, hj, hjs, hjt, hb⟩
  have h1 : NegP w1 (fun b => w.heap.size ≤ b) B (CI jb) (st0 askI) jb := ⟨hv, hj, hjt, hjs, rfl⟩
  have D1 := Lib.hid (And.intro (DoP noR 2 (by decide) h1) (And.intro h1 hb))
  rw [eI1] at D1
  clear hv hj hjs hjt hb h1
  go_wp2_with fail
  refine D1.out.1.mono ?_
  rintro e w2 ⟨v2, rfl, p2, h2, k2⟩
  obtain ⟨⟨S2, n2, m2⟩, b2⟩ : NegQ w w2 B (CI jb) (sI 1 0 0 0 0) jb := NegQ.ev D1.out.2.2 (fun b hb => hb) D1.out.2.1 h2 k2
  have D2 := Lib.hid (And.intro (DoP noR 0 (by decide) n2) (And.intro n2 (And.intro m2 b2)))
  rw [eI2] at D2
  clear p2 h2 k2 n2 m2 b2
  go_wp2_with fail
  refine D2.out.1.mono ?_
  rintro e w3 ⟨v3, rfl, p3, h3, k3⟩
  obtain ⟨⟨S3, n3, m3⟩, b3⟩ : NegQ w w3 B (CI jb) (sI 6 4 1 1 0) jb := NegQ.ev D2.out.2.2.2 D2.out.2.2.1 D2.out.2.1 h3 k3
  have b4 : Below w3.heap.size w3 (w3.alloc (.cells #[.int .i64 3, .string ⟨#[0, 0, 0, 0]⟩] 46 (0, 0))) := (Below.refl _ _).alloc (Nat.le_refl _) _
  have o4 : Opts (w3.alloc (.cells #[.int .i64 3, .string ⟨#[0, 0, 0, 0]⟩] 46 (0, 0))) (fun b => w3.heap.size ≤ b) (.slice (some ⟨w3.heap.size, 0, none⟩) 1 1) [⟨3, ⟨#[0, 0, 0, 0]⟩⟩] := (ORow.one ⟨3, ⟨#[0, 0, 0, 0]⟩⟩ (at1 w3 _) (Nat.le_refl _)).opts (show 1 ≤ maxLen by decide)
  have n4 := n3.below b4
  have T4 := take1P noR ⟨1, 1, [⟨3, ⟨#[0, 0, 0, 0]⟩⟩], noB⟩ _ rfl n4 o4 (fun b hb ht => by have := n3.tlt ht; omega) (show 1 ≤ 1000000 by decide) (fun o ho => by simp only [List.mem_singleton] at ho; subst ho; show (Lit.int .i64 3).wf = true; decide) (fun o ho => by simp only [List.mem_singleton] at ho; subst ho; show 4 ≤ 100000; decide) (fun _ pa => sayAll_7 _ _ _ _ _ _ _ (by decide))
  rw [show (CI jb).peer = srvR adB Ad.z Ad.z from rfl, eIJ, eI3] at T4
  unfold pkV noB at T4
  have HB4 := Lib.hid (b3.trans (b4.mono b3.size))
  have T := Lib.hid (And.intro T4 (And.intro n4 m3))
  clear p3 h3 k3 n3 m3 b3 b4 o4 n4 T4
  go_wp2_with fail
  refine T.out.1.mono ?_
  rintro e w5 ⟨v5, rfl, p5, h5, k5⟩
  have b5 := (NegQ.ev HB4.out T.out.2.2 T.out.2.1 h5 k5).2
  obtain ⟨g, cap, po, rfl, g1, g2, g3, g4, x0, x1, x2, x3, xo⟩ := p5.at0
  obtain ⟨oa, oc, rfl, -, -⟩ := xo.form
  obtain ⟨b, off, rfl, -, -, -, -, -, y0, y1⟩ := xo.at 0 (by decide)
  simp only [Nat.zero_mul, Nat.add_zero] at y0 y1
  rw [show adB.s = ⟨#[10, 0, 0, 7]⟩ from rfl] at y1
  have HB5 := Lib.hid b5
  clear p5 h5 k5 xo b5
  go_wp2_with (first
    | (go_at_call 24; with_reducible refine (G1.out _).mono ?_; rintro e w6 ⟨rfl, b6⟩; have HB6 := Lib.hid (HB5.out.trans (b6.mono HB5.out.size)); clear b6)
    | (go_at_call 24; with_reducible refine (G2.out _).mono ?_; rintro e w7 ⟨rfl, b7⟩; have HB7 := Lib.hid (HB6.out.trans (b7.mono HB6.out.size)); clear b7))
  go_ret
  exact ⟨rfl, HB7.out⟩
end Go.Proofs.Ytijepfjfmpmfnaa
