import Derived.Test.YtoblffnlopmebaaGreatQAC
import Derived.Test.YtoblffnlopmebaaGreatQAG
import Derived.Outline
import Derived.Deep.LoopGhost
import Derived.Deep.QuietTactic
import Derived.BigQuiet
import Derived.Laws.ResultCell
import Derived.Laws.Bits64
set_option linter.unusedVariables false
set_option linter.unusedSimpArgs false
set_option maxHeartbeats 16000000
namespace Go.Proofs.YtoblffnlopmebaaGreat
open Go.RowKit Go.Tg Go.Maps
structure Opt where
 t : Int
 v : ByteArray
structure Rl where
 t : Int
 len : Int
 min : Int
 max : Int
 s : ByteArray
instance : Inhabited Opt := ⟨⟨0, ⟨#[]⟩⟩⟩
instance : Inhabited Rl := ⟨⟨0, 0, 0, 0, ⟨#[]⟩⟩⟩
def Opt.cells (o : Opt) : List Value := [.int .i64 o.t, .string o.v]
def Rl.cells (r : Rl) : List Value := [.int .i64 r.t, .int .i64 r.len, .int .i64 r.min, .int .i64 r.max, .string r.s]
def optL (l : List Opt) : List (List Value) := l.map Opt.cells
def rlL (l : List Rl) : List (List Value) := l.map Rl.cells
theorem optL_k (l : List Opt) : ∀ x ∈ optL l, x.length = 2 := by
 intro x hx; simp only [optL, List.mem_map] at hx; obtain ⟨o, _, rfl⟩ := hx; rfl
theorem rlL_k (l : List Rl) : ∀ x ∈ rlL l, x.length = 5 := by
 intro x hx; simp only [rlL, List.mem_map] at hx; obtain ⟨o, _, rfl⟩ := hx; rfl
theorem optL_len (l : List Opt) : (optL l).length = l.length := by simp [optL]
theorem rlL_len (l : List Rl) : (rlL l).length = l.length := by simp [rlL]
def Opts (w : World) (ok : Nat -> Prop) (v : Value) (l : List Opt) : Prop := Rec 2 w ok v (optL l)
def Rls (w : World) (ok : Nat -> Prop) (v : Value) (l : List Rl) : Prop := Rec 5 w ok v (rlL l)
def valB (l : List UInt8) : Int := l.foldl (fun n b => n * 256 + (b.toNat : Int)) 0
theorem valB_snoc (l : List UInt8) (b : UInt8) : valB (l ++ [b]) = valB l * 256 + (b.toNat : Int) := by simp [valB]
theorem valB_acc : ∀ (l : List UInt8) (a : Int), 0 <= a -> 0 <= l.foldl (fun n b => n * 256 + (b.toNat : Int)) a /\ l.foldl (fun n b => n * 256 + (b.toNat : Int)) a < (a + 1) * 256 ^ l.length := by
 intro l
 induction l with
 | nil => intro a ha; simp; omega
 | cons b l ih =>
  intro a ha; have hb := b.toNat_lt; obtain ⟨h1, h2⟩ := ih (a * 256 + (b.toNat : Int)) (by omega); refine ⟨h1, Int.lt_of_lt_of_le h2 ?_⟩; rw [List.length_cons, Int.pow_succ, Int.mul_comm (256 ^ l.length) 256, <- Int.mul_assoc]; exact Int.mul_le_mul_of_nonneg_right (by omega) (Int.pow_nonneg (by decide))
theorem valB_bd (l : List UInt8) : 0 <= valB l /\ valB l < 256 ^ l.length := by
 obtain ⟨h1, h2⟩ := valB_acc l 0 (Int.le_refl _); refine ⟨h1, ?_⟩
 simpa [valB] using h2
theorem valB_lt (l : List UInt8) (h : l.length <= 7) : 0 <= valB l /\ valB l < 72057594037927936 := by
 obtain ⟨h1, h2⟩ := valB_bd l; refine ⟨h1, Int.lt_of_lt_of_le h2 ?_⟩; have : l.length = 0 \/ l.length = 1 \/ l.length = 2 \/ l.length = 3 \/ l.length = 4 \/ l.length = 5 \/ l.length = 6 \/ l.length = 7 := by omega
 rcases this with h | h | h | h | h | h | h | h <;> rw [h] <;> decide
theorem valB_six (l : List UInt8) (h : l.length <= 6) : valB l < 281474976710656 := by
 obtain ⟨_, h2⟩ := valB_bd l; refine Int.lt_of_lt_of_le h2 ?_; have : l.length = 0 \/ l.length = 1 \/ l.length = 2 \/ l.length = 3 \/ l.length = 4 \/ l.length = 5 \/ l.length = 6 := by omega
 rcases this with h | h | h | h | h | h | h <;> rw [h] <;> decide
def fitsR (r : Rl) (v : ByteArray) : Bool := decide ((v.size : Int) = r.len) && decide (r.min <= valB (v.data.toList.take 7)) && decide (valB (v.data.toList.take 7) <= r.max)
def findR (rules : List Rl) (k : Int) : Option Rl := rules.find? fun r => r.t == k
def findO (l : List Opt) (k : Int) : Option Opt := l.find? fun o => o.t == k
def rejOne (has : Int -> Bool) (pre : List Opt) (o : Opt) : Bool := pre.any (fun x => x.t == o.t) || !has o.t
def rejP (has : Int -> Bool) : List Opt -> List Opt -> List Opt
 | _, [] => []
 | pre, o :: l => (if rejOne has pre o then [o] else []) ++ rejP has (pre ++ [o]) l
def nakP (fits : Opt -> Bool) (inst : Int -> ByteArray) (l : List Opt) : List Opt := (l.filter fun o => !fits o).map fun o => ⟨o.t, inst o.t⟩
def answerS (has : Int -> Bool) (fits : Opt -> Bool) (inst : Int -> ByteArray) (l : List Opt) : Int × List Opt :=
 if (rejP has [] l).length ≠ 0 then (4, rejP has [] l) else if (nakP fits inst l).length ≠ 0 then (3, nakP fits inst l) else (2, l)
def ruleOf (rules : List Rl) (k : Int) : Rl := (findR rules k).getD default
def judgeS (rules : List Rl) (l : List Opt) : Int × List Opt := answerS (fun k => (findR rules k).isSome) (fun o => fitsR (ruleOf rules o.t) o.v) (fun k => (ruleOf rules k).s) l
theorem or_byte (n b : Nat) (hn : n < 36028797018963968) (hb : b < 256) : bits .or .i64 ((n : Int) * 256) (b : Int) = (n : Int) * 256 + (b : Int) := by
 have h1 : (BitVec.ofInt 64 ((n : Int) * 256)).toNat = n * 256 := by
  rw [show ((n : Int) * 256) = ((n * 256 : Nat) : Int) from by omega, BitVec.ofInt_natCast, BitVec.toNat_ofNat]; exact Nat.mod_eq_of_lt (by omega)
 have h2 : (BitVec.ofInt 64 (b : Int)).toNat = b := by
  rw [BitVec.ofInt_natCast, BitVec.toNat_ofNat]; exact Nat.mod_eq_of_lt (by omega)
 have h3 : n * 256 ||| b = n * 256 + b := by
  have := Nat.shiftLeft_add_eq_or_of_lt (i := 8) (show b < 2 ^ 8 from hb) n; rw [Nat.shiftLeft_eq] at this; exact this.symm
 have hw : ∀ x : Int, 0 <= x -> x < 9223372036854775808 -> IntKind.i64.wrap x = x := fun x h0 h1 => IntWalk.i64_in _ (by omega)
 show IntKind.i64.wrap ((BitVec.ofInt 64 ((n : Int) * 256) ||| BitVec.ofInt 64 (b : Int)).toNat : Int) = _
 rw [BitVec.toNat_or, h1, h2, h3, hw _ (by omega) (by omega)]; omega
theorem in_any (n a b : Int) (w : World) : Calls Tryz.prog 173 #[.int .i64 n, .int .i64 a, .int .i64 b] w fun e w' => e = .returned (.bool (decide (a <= n) && decide (n <= b))) /\ w = w' := by
 by_cases h1 : a <= n
 . by_cases h2 : n <= b
   . go_enter Tryz.func173, Tryz.ntmps173
     go_wp2
     go_ret; exact ⟨by simp [h1, h2], rfl⟩
   . go_enter Tryz.func173, Tryz.ntmps173
     go_wp2
     go_ret; exact ⟨by simp; omega, rfl⟩
 . go_enter Tryz.func173, Tryz.ntmps173
   go_wp2
   go_ret; exact ⟨by simp; omega, rfl⟩
set_option maxRecDepth 100000 in
theorem value_any (s : ByteArray) (w : World) (hs : s.size <= 7) : Calls Tryz.prog 150 #[.string s] w fun e w' => e = .returned (.tuple #[.int .i64 (valB s.data.toList), .bool true]) /\ w = w' := by
 have q1 : decide ((7 : Int) < (s.size : Int)) = false := by simp; omega
 have HL := H_ (show s.data.toList.length = s.size by rw [Array.length_toList]; rfl); go_enter Tryz.func150, Tryz.ntmps150; go_wp2_with fail
 go_loopg [4, 11] s.size (fun x v i wr => ∃ k : Nat, k <= s.size /\ x = s.size - k /\ i = .int .i64 k /\ v = .int .i64 (valB (s.data.toList.take k)) /\ w = wr)
 case atStart => exact ⟨0, by omega, by omega, rfl, rfl, rfl⟩
 case round =>
  obtain ⟨k, hk, rfl, rfl, rfl, rfl⟩ := hrel
  by_cases hlt : k < s.size
  . have HB := H_ (valB_snoc (s.data.toList.take k) s[k])
    have HT := H_ (show s.data.toList.take (k + 1) = s.data.toList.take k ++ [s[k]] by
     rw [List.take_succ_eq_append_getElem (by have := HL.out; omega)]; rfl)
    have hlt1 := valB_lt (s.data.toList.take k) (by rw [List.length_take]; omega)
    have hE : bits .or .i64 (wrap64 (valB (s.data.toList.take k) * 256)) (s[k].toNat : Int) = valB (s.data.toList.take (k + 1)) := by
     rw [HT.out, HB.out]; have hb := (valB_bd (s.data.toList.take k)).2; have h6 : (s.data.toList.take k).length <= 6 := by rw [List.length_take]; omega
     have hlt3 := valB_six (s.data.toList.take k) h6; obtain ⟨v, hv⟩ := Int.eq_ofNat_of_zero_le hlt1.1; rw [hv] at hlt3 ⊢; rw [show wrap64 ((v : Int) * 256) = (v : Int) * 256 from IntWalk.wrap64_in _ (by omega)]; exact or_byte v s[k].toNat (by omega) (by have := s[k].toNat_lt; omega)
    have HE := H_ hE; clear hE hlt1; have hbb : s[k].toNat < 256 := s[k].toNat_lt; go_wp2_with fail
    go_roundg (s.size - (k + 1))
    case measure => omega
    case rel => exact ⟨k + 1, by omega, rfl, by go_num, by rw [HE.out], rfl⟩
  . obtain rfl : s.size = k := by omega
    have HA := H_ (show s.data.toList.take s.size = s.data.toList from List.take_of_length_le (by rw [Array.length_toList]; exact Nat.le_refl _)); go_wp2_with fail; go_ret2; exact ⟨by rw [HA.out]; rfl, rfl⟩
theorem str_len (s : ByteArray) : s.data.toList.length = s.size := by rw [Array.length_toList]; rfl
theorem ex_take (s : ByteArray) (k : Nat) : (s.extract 0 k).data.toList = s.data.toList.take k := by simp [ByteArray.data_extract]
set_option maxRecDepth 100000 in
theorem fits_any (r : Rl) (v : ByteArray) (w : World) (hv : v.size <= 100000) :
 Calls Tryz.prog 176 #[.agg #[.int .i64 r.t, .int .i64 r.len, .int .i64 r.min, .int .i64 r.max, .string r.s], .string v] w fun e w' => e = .returned (.bool (fitsR r v)) /\ Below w.heap.size w w' := by
 obtain ⟨t, len, mn, mx, sg⟩ := r; have hb0 := (Below.refl w.heap.size w).alloc (Nat.le_refl _) (.cells #[.int .i64 t, .int .i64 len, .int .i64 mn, .int .i64 mx, .string sg] 158 (0, 0))
 by_cases h1 : (v.size : Int) = len
 . have hF : fitsR ⟨t, len, mn, mx, sg⟩ v = (decide (mn <= valB (v.data.toList.take 7)) && decide (valB (v.data.toList.take 7) <= mx)) := by simp [fitsR, h1]
   have HF := H_ hF; clear hF; subst h1
   by_cases h7 : v.size <= 7
   . have hx : v.data.toList.take 7 = v.data.toList := List.take_of_length_le (by rw [str_len]; exact h7); rw [hx] at HF; have HV := H_ (fun w => value_any v w h7); generalize valB v.data.toList = x at HF HV; clear hx; go_enter Tryz.func176, Tryz.ntmps176; go_wp2_with fail; refine (HV.out _).mono ?_; rintro e w' ⟨rfl, rfl⟩; go_wp2_with fail
     all_goals (
      go_ret; refine ⟨?_, hb0⟩; rw [HF.out]
      first | rfl | (simp; omega))
   . have hx : (v.extract 0 7).data.toList = v.data.toList.take 7 := ex_take v 7; have hs7 : (v.extract 0 7).size <= 7 := by rw [ByteArray.size_extract]; omega
     have HV := H_ (fun w => value_any (v.extract 0 7) w hs7); rw [<- hx] at HF; generalize valB (v.extract 0 7).data.toList = x at HF HV; clear hx hs7; go_enter Tryz.func176, Tryz.ntmps176; go_wp2_with fail; refine (HV.out _).mono ?_; rintro e w' ⟨rfl, rfl⟩; go_wp2_with fail
     all_goals (
      go_ret; refine ⟨?_, hb0⟩; rw [HF.out]
      first | rfl | (simp; omega))
 . have hF : fitsR ⟨t, len, mn, mx, sg⟩ v = false := by simp [fitsR, h1]
   have HF := H_ hF; have q1 : ((v.size : Int) != len) = true := by simpa using h1
   clear hF; go_enter Tryz.func176, Tryz.ntmps176; go_wp2_with fail; go_ret; exact ⟨by rw [HF.out]; rfl, hb0⟩
end Go.Proofs.YtoblffnlopmebaaGreat
