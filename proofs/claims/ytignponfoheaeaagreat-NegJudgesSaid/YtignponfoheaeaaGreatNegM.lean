import Derived.Test.YtignponfoheaeaaGreatRd
import Derived.Test.YtignponfoheaeaaGreatW3
namespace Go.Proofs.YtignponfoheaeaaGreat
open Go.RowKit Go.Tg Go.Maps

/-! What negotiation speaks of, in plain Lean. -/
structure Opt where
  t : Int
  v : ByteArray
structure Rl where
  t : Int
  len : Int
  min : Int
  max : Int
  s : ByteArray
instance : Inhabited Opt := ⟨⟨0, ⟨#[]⟩⟩⟩
instance : Inhabited Rl := ⟨⟨0, 0, 0, 0, ⟨#[]⟩⟩⟩
def Opt.cells (o : Opt) : List Value := [.int .i64 o.t, .string o.v]
def Rl.cells (r : Rl) : List Value := [.int .i64 r.t, .int .i64 r.len, .int .i64 r.min, .int .i64 r.max, .string r.s]
def optL (l : List Opt) : List (List Value) := l.map Opt.cells
def rlL (l : List Rl) : List (List Value) := l.map Rl.cells
theorem optL_k (l : List Opt) : ∀ x ∈ optL l, x.length = 2 := by
  intro x hx; simp only [optL, List.mem_map] at hx; obtain ⟨o, _, rfl⟩ := hx; rfl
theorem rlL_k (l : List Rl) : ∀ x ∈ rlL l, x.length = 5 := by
  intro x hx; simp only [rlL, List.mem_map] at hx; obtain ⟨o, _, rfl⟩ := hx; rfl
theorem optL_len (l : List Opt) : (optL l).length = l.length := by simp [optL]
theorem rlL_len (l : List Rl) : (rlL l).length = l.length := by simp [rlL]

/-- Options, rules in memory. -/
def Opts (w : World) (ok : Nat → Prop) (v : Value) (l : List Opt) : Prop := Rec 2 w ok v (optL l)
def Rls (w : World) (ok : Nat → Prop) (v : Value) (l : List Rl) : Prop := Rec 5 w ok v (rlL l)

/-- The number of some bytes. -/
def valB (l : List UInt8) : Int := l.foldl (fun n b => n * 256 + (b.toNat : Int)) 0
theorem valB_snoc (l : List UInt8) (b : UInt8) : valB (l ++ [b]) = valB l * 256 + (b.toNat : Int) := by simp [valB]
theorem valB_acc : ∀ (l : List UInt8) (a : Int), 0 ≤ a → 0 ≤ l.foldl (fun n b => n * 256 + (b.toNat : Int)) a ∧ l.foldl (fun n b => n * 256 + (b.toNat : Int)) a < (a + 1) * 256 ^ l.length := by
  intro l
  induction l with
  | nil => intro a ha; simp; omega
  | cons b l ih =>
    intro a ha
    have hb := b.toNat_lt
    obtain ⟨h1, h2⟩ := ih (a * 256 + (b.toNat : Int)) (by omega)
    refine ⟨h1, Int.lt_of_lt_of_le h2 ?_⟩
    rw [List.length_cons, Int.pow_succ, Int.mul_comm (256 ^ l.length) 256, ← Int.mul_assoc]
    exact Int.mul_le_mul_of_nonneg_right (by omega) (Int.pow_nonneg (by decide))
theorem valB_bd (l : List UInt8) : 0 ≤ valB l ∧ valB l < 256 ^ l.length := by
  obtain ⟨h1, h2⟩ := valB_acc l 0 (Int.le_refl _)
  refine ⟨h1, ?_⟩
  simpa [valB] using h2
theorem valB_lt (l : List UInt8) (h : l.length ≤ 7) : 0 ≤ valB l ∧ valB l < 72057594037927936 := by
  obtain ⟨h1, h2⟩ := valB_bd l
  refine ⟨h1, Int.lt_of_lt_of_le h2 ?_⟩
  have : l.length = 0 ∨ l.length = 1 ∨ l.length = 2 ∨ l.length = 3 ∨ l.length = 4 ∨ l.length = 5 ∨ l.length = 6 ∨ l.length = 7 := by omega
  rcases this with h | h | h | h | h | h | h | h <;> rw [h] <;> decide

theorem valB_six (l : List UInt8) (h : l.length ≤ 6) : valB l < 281474976710656 := by
  obtain ⟨_, h2⟩ := valB_bd l
  refine Int.lt_of_lt_of_le h2 ?_
  have : l.length = 0 ∨ l.length = 1 ∨ l.length = 2 ∨ l.length = 3 ∨ l.length = 4 ∨ l.length = 5 ∨ l.length = 6 := by omega
  rcases this with h | h | h | h | h | h | h <;> rw [h] <;> decide

/-- Does a value fit a rule? -/
def fitsR (r : Rl) (v : ByteArray) : Bool := decide ((v.size : Int) = r.len) && decide (r.min ≤ valB (v.data.toList.take 7)) && decide (valB (v.data.toList.take 7) ≤ r.max)
def findR (rules : List Rl) (k : Int) : Option Rl := rules.find? fun r => r.t == k
def findO (l : List Opt) (k : Int) : Option Opt := l.find? fun o => o.t == k
/-- What is rejected: what may not be, or stands there for the second time. -/
def rejOne (has : Int → Bool) (pre : List Opt) (o : Opt) : Bool := pre.any (fun x => x.t == o.t) || !has o.t
def rejP (has : Int → Bool) : List Opt → List Opt → List Opt
  | _, [] => []
  | pre, o :: l => (if rejOne has pre o then [o] else []) ++ rejP has (pre ++ [o]) l
theorem rejP_snoc (has : Int → Bool) : ∀ (l pre : List Opt) (o : Opt), rejP has pre (l ++ [o]) = rejP has pre l ++ (if rejOne has (pre ++ l) o then [o] else []) := by
  intro l
  induction l with
  | nil => intro pre o; simp [rejP]
  | cons x l ih => intro pre o; simp only [List.cons_append, rejP, ih, List.append_assoc, List.nil_append]
theorem rejP_len (has : Int → Bool) : ∀ (l pre : List Opt), (rejP has pre l).length ≤ l.length := by
  intro l
  induction l with
  | nil => intro pre; simp [rejP]
  | cons x l ih =>
    intro pre
    simp only [rejP, List.length_append, List.length_cons]
    have := ih (pre ++ [x])
    split <;> simp <;> omega
/-- What is named instead. -/
def nakP (fits : Opt → Bool) (inst : Int → ByteArray) (l : List Opt) : List Opt := (l.filter fun o => !fits o).map fun o => ⟨o.t, inst o.t⟩
theorem nakP_snoc (fits : Opt → Bool) (inst : Int → ByteArray) (l : List Opt) (o : Opt) : nakP fits inst (l ++ [o]) = nakP fits inst l ++ (if fits o then [] else [⟨o.t, inst o.t⟩]) := by
  unfold nakP
  rw [List.filter_append, List.map_append]
  congr 1
  cases h : fits o <;> simp [h]
theorem nakP_len (fits : Opt → Bool) (inst : Int → ByteArray) (l : List Opt) : (nakP fits inst l).length ≤ l.length := by
  unfold nakP
  rw [List.length_map]
  exact List.length_filter_le _ _
/-- The answer to a request. -/
def answerS (has : Int → Bool) (fits : Opt → Bool) (inst : Int → ByteArray) (l : List Opt) : Int × List Opt :=
  if (rejP has [] l).length ≠ 0 then (4, rejP has [] l) else if (nakP fits inst l).length ≠ 0 then (3, nakP fits inst l) else (2, l)
def ruleOf (rules : List Rl) (k : Int) : Rl := (findR rules k).getD default
def judgeS (rules : List Rl) (l : List Opt) : Int × List Opt := answerS (fun k => (findR rules k).isSome) (fun o => fitsR (ruleOf rules o.t) o.v) (fun k => (ruleOf rules k).s) l
end Go.Proofs.YtignponfoheaeaaGreat
