import Derived.Test.YtoblffnlopmebaaGreatQAE
import Derived.Deep.QuietTactic
import Derived.BigQuiet
set_option linter.unusedVariables false
set_option linter.unusedSimpArgs false
set_option maxHeartbeats 16000000
namespace Go.Proofs.YtoblffnlopmebaaGreat
open Go.RowKit Go.Tg Go.Maps
def nextF : Tab := fun s e => (lookupL answeredL s e).or (lookupL calledL s e)
def nextS (s e : Int) : Int := match nextF s e with
 | some r => r.1
 | none => s
def nextL (s e : Int) : List Int := match nextF s e with
 | some r => r.2
 | none => []
def AutoAt (w : World) (b : Nat) (s c cf tm : Int) : Prop := w.heap[b]? = some (.cells #[.int .i64 s, .int .i64 c, .int .i64 cf, .int .i64 tm] 239 (0, 0))
theorem frozen_of_block {w : World} {b : Nat} {cs : Array Value} {T : TypeId} (h : w.heap[b]? = some (.cells cs T (0, 0))) (o : Nat) : w.frozen? ⟨b, o, none⟩ = false := by
 simp [World.frozen?, h]
theorem set_block {w : World} {b : Nat} {cs : Array Value} {T : TypeId} {z : Nat × Nat} (h : w.heap[b]? = some (.cells cs T z)) (o : Nat) (v : Value) :
 (w.setCell ⟨b, o, none⟩ v).heap[b]? = some (.cells (cs.setIfInBounds o v) T z) := by
 simp [World.setCell, Array.getElem?_modify, h]
section
variable {w : World} {b : Nat} {s c cf tm : Int}
theorem AutoAt.lt (h : AutoAt w b s c cf tm) : b < w.heap.size := (Array.getElem?_eq_some_iff.1 h).1
theorem AutoAt.keep {S : Nat -> Prop} {w' : World} (h : AutoAt w b s c cf tm) (hk : Keep S w w') (hs : ¬ S b) : AutoAt w' b s c cf tm := (hk.block b h.lt hs).trans h
theorem AutoAt.below {w' : World} (h : AutoAt w b s c cf tm) (hk : Below w.heap.size w w') : AutoAt w' b s c cf tm := (hk.block b h.lt).trans h
end
def waitsB (s : Int) : Bool := decide (4 <= s) && decide (s <= 8)
def hasB (xs : List Int) (x : Int) : Bool := xs.contains x
def Has (xs : List Int) (x r : Int) : Prop := decide (0 <= r) = hasB xs x
def Cells (w : World) (v : Value) (xs : List Int) : Prop :=
 (xs = [] /\ v = .slice none 0 0) \/ ∃ b, v = .slice (some ⟨b, 0, none⟩) xs.length xs.length /\ ∀ (i : Nat) (h : i < xs.length), w.cell? ⟨b, i, none⟩ = some (.int .i64 xs[i])
def doStep (cf tm : Int) (xs : List Int) (c x : Int) : Int :=
 if x = 4 then (if hasB xs 9 then tm else cf) else if x = 5 then 0 else if x = 6 \/ x = 9 then (if c - 1 < 0 then 0 else c - 1) else c
def doC (cf tm : Int) (xs ys : List Int) (c : Int) : Int := ys.foldl (doStep cf tm xs) c
def InB (x : Int) : Prop := 0 <= x /\ x <= 20
def tmoE (s c : Int) : Option Int := if waitsB s = true then (if 0 < c then some 4 else some 5) else none
def tmoS (s c : Int) : Int := match tmoE s c with
 | some e => nextS s e
 | none => s
def tmoL (s c : Int) : List Int := match tmoE s c with
 | some e => nextL s e
 | none => []
def inB20 (n : Int) : Bool := decide (1 <= n) && decide (n <= 20)
theorem inB20_true {n : Int} : inB20 n = true ↔ 1 <= n /\ n <= 20 := by simp [inB20]
theorem new1_any (n : Int) (w : World) : Calls Tryz.prog 170 #[.int .i64 n] w fun e w' => e = .returned (.bool (inB20 n)) /\ w = w' := by
 by_cases h1 : 1 <= n
 . by_cases h2 : n <= 20
   . go_enter Tryz.func170, Tryz.ntmps170
     go_wp2
     go_ret; exact ⟨by simp [inB20, h1, h2], rfl⟩
   . go_enter Tryz.func170, Tryz.ntmps170
     go_wp2
     go_ret; exact ⟨by simp [inB20, h1]; omega, rfl⟩
 . go_enter Tryz.func170, Tryz.ntmps170
   go_wp2
   go_ret; exact ⟨by simp [inB20]; omega, rfl⟩
theorem new_ok (c t : Int) (w : World) (hc : inB20 c = true) (ht : inB20 t = true) :
 Calls Tryz.prog 112 #[.int .i64 c, .int .i64 t] w fun e w' => e = .returned (.tuple #[.pointer (some ⟨w.heap.size, 0, none⟩), .int .i64 0]) /\ AutoAt w' w.heap.size 0 0 c t /\ Keep (fun _ => False) w w' := by
 go_enter Tryz.func112, Tryz.ntmps112; go_wp2_with fail; refine (new1_any _ _).mono ?_; rintro en w0 ⟨rfl, rfl⟩; go_wp2_with fail; refine (new1_any _ _).mono ?_; rintro en w0 ⟨rfl, rfl⟩; go_wp2_with fail; go_ret2; exact ⟨rfl, by show (w.heap.push _)[_]? = _; simp, (Keep.refl _ _).alloc _⟩
theorem new_bad (c t : Int) (w : World) (h : inB20 c = false \/ inB20 t = false) :
 Calls Tryz.prog 112 #[.int .i64 c, .int .i64 t] w fun e w' => e = .returned (.tuple #[.pointer none, .int .i64 1]) /\ w = w' := by
 cases hc : inB20 c with
 | false =>
  clear h; go_enter Tryz.func112, Tryz.ntmps112; go_wp2_with fail; refine (new1_any _ _).mono ?_; rintro en w0 ⟨rfl, rfl⟩; go_wp2_with fail; go_ret2; exact ⟨rfl, rfl⟩
 | true =>
  have ht : inB20 t = false := by rcases h with h | h; rw [hc] at h; cases h; exact h
  clear h; go_enter Tryz.func112, Tryz.ntmps112; go_wp2_with fail; refine (new1_any _ _).mono ?_; rintro en w0 ⟨rfl, rfl⟩; go_wp2_with fail; refine (new1_any _ _).mono ?_; rintro en w0 ⟨rfl, rfl⟩; go_wp2_with fail; go_ret2; exact ⟨rfl, rfl⟩
end Go.Proofs.YtoblffnlopmebaaGreat
