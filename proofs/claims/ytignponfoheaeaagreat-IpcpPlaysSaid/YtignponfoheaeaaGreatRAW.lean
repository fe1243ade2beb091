import Derived.Test.YtignponfoheaeaaGreatRAT
import Derived.Test.YtignponfoheaeaaGreatRAQ
import Derived.Test.YtignponfoheaeaaGreatRAU
set_option linter.unusedVariables false
set_option linter.unusedSimpArgs false
set_option maxHeartbeats 16000000
namespace Go.Proofs.YtignponfoheaeaaGreat
open Go.RowKit Go.Tg Go.Maps
def BoolIs (e : Ending) (P : Prop) : Prop := ∃ b, e = .returned (.bool b) /\ (b = true -> P)
set_option maxRecDepth 100000 in
theorem light_any (l : List Opt) (lv : Value) (ok : Nat -> Prop) (w : World) (hl : Opts w ok lv l) (hm : ∀ o ∈ l, o.v.size <= maxLen) :
 Calls Tryz.prog 24 #[lv] w fun e w' => BoolIs e (l.length <= 50 /\ ∀ o ∈ l, o.v.size <= 400) /\ w = w' := by
 obtain ⟨sa, c, rfl, hc, hcm⟩ := hl.form; have HL := H_ (A_ hl hm); obtain ⟨len, hln⟩ : ∃ len, len = l.length := ⟨_, rfl⟩; have HLN := H_ hln; rw [<- hln] at hc ⊢; unfold maxLen at hcm; clear hl hln hm; go_enter Tryz.func24, Tryz.ntmps24; go_wp2_with fail
 go_loopg [3] len (fun x i wr => ∃ k : Nat, k <= len /\ k <= 60 /\ x = len - k /\ i = .int .i64 k /\ Hid ((∀ j (h : j < l.length), j < k -> l[j].v.size <= 400) /\ w = wr))
 case atStart => exact ⟨0, by omega, by omega, by omega, rfl, fun j h hj => absurd hj (Nat.not_lt_zero _), rfl⟩
 case round =>
  obtain ⟨k, hk, hk2, rfl, rfl, hK⟩ := hrel; obtain ⟨hA, rfl⟩ := hK.out; have HK := H_ hA; clear hK hA
  by_cases hkl : k < len
  . by_cases hk6 : k < 60
    . have hkl' : k < l.length := by have := HLN.out; omega
      obtain ⟨b, off, rfl, hb, -, -, -, -, -, ch⟩ := HL.out.1.at k hkl'; have d1 : w.cell? ⟨b, off + k * 2 + 1, none⟩ = some (.string l[k].v) := ch
      have HS := H_ (show ∀ j (h : j < l.length), j < k + 1 -> l[k].v.size <= 400 -> l[j].v.size <= 400 from fun j h hj hs => by
       rcases Nat.lt_or_ge j k with h1 | h1
       . exact HK.out j h h1
       . have : j = k := by omega
         subst this; exact hs)
      have HF := H_ (show 400 < l[k].v.size -> ¬ ∀ o ∈ l, o.v.size <= 400 from fun h1 h2 => by have := h2 _ (List.getElem_mem hkl'); omega); have hsm := HL.out.2 _ (List.getElem_mem hkl'); unfold maxLen at hsm; clear ch; generalize l[k] = o at *; generalize hz : o.v = s at *; clear hz
      by_cases hs : 400 < s.size
      . have dd : decide ((400 : Int) < (s.size : Int)) = true := by simp; omega
        have HF2 := H_ (HF.out hs); clear hs; go_wp2_with fail; go_ret; exact ⟨⟨false, rfl, fun h => by cases h⟩, rfl⟩
      . have dd : decide ((400 : Int) < (s.size : Int)) = false := by simp; omega
        have hs2 : s.size <= 400 := by omega
        have HS2 := H_ (fun j h hj => HS.out j h hj hs2); clear hs hs2; go_wp2_with fail
        go_roundg (len - (k + 1))
        case measure => omega
        case rel => exact ⟨k + 1, by omega, by omega, rfl, by go_num, fun j h hj => HS2.out j h hj, rfl⟩
    . obtain rfl : k = 60 := by omega
      have dd : decide ((len : Int) <= 50) = false := by simp; omega
      go_wp2_with fail; go_ret; exact ⟨⟨false, rfl, fun h => by cases h⟩, rfl⟩
  . obtain rfl : len = k := by omega
    by_cases h5 : len <= 50
    . have dd : decide ((len : Int) <= 50) = true := by simp; omega
      have H5 := H_ h5; clear h5; go_wp2_with fail; go_ret; refine ⟨⟨true, rfl, fun _ => ⟨by have := HLN.out; have := H5.out; omega, fun o ho => ?_⟩⟩, rfl⟩; obtain ⟨j, hj, rfl⟩ := List.getElem_of_mem ho; exact HK.out j hj (by have := HLN.out; omega)
    . have dd : decide ((len : Int) <= 50) = false := by simp; omega
      clear h5; go_wp2_with fail; go_ret; exact ⟨⟨false, rfl, fun h => by cases h⟩, rfl⟩
theorem build_book (w : World) : (Instr.build 42 #[]).run Tryz.prog w = .ok (.agg (bookC nilS nilS nilS nilS nilS nilS)) w := by kernel_rfl
theorem box_book (w : World) : (Instr.box 42 (.agg (bookC nilS nilS nilS nilS nilS nilS))).run Tryz.prog w = .ok (.pointer (some ⟨w.heap.size, 0, none⟩)) (w.alloc (.cells (bookC nilS nilS nilS nilS nilS nilS) 42 (0, 0))) := by kernel_rfl
theorem wpl_newbook {ops : Array Oper} {rest : List Oper} {Q : Exit -> Act -> World -> Prop} {a : Act} {w : World} {d1 d2 : Tmp} {t1 t2 : TypeId} {p1 p2 : String} {f1 f2 : Array Edge}
 (hx : (a.put (some d1) (.agg (bookC nilS nilS nilS nilS nilS nilS))).eval (.tmp d1) = .agg (bookC nilS nilS nilS nilS nilS nilS))
 (h : wpList Tryz.prog ops Q rest ((a.put (some d1) (.agg (bookC nilS nilS nilS nilS nilS nilS))).put (some d2) (.pointer (some ⟨w.heap.size, 0, none⟩))) (w.alloc (.cells (bookC nilS nilS nilS nilS nilS nilS) 42 (0, 0)))) :
 wpList Tryz.prog ops Q ({ dst := some d1, op := .build 42 #[], type := t1, pos := p1, after := f1, guard := none } :: { dst := some d2, op := .box 42 (.tmp d1), type := t2, pos := p2, after := f2, guard := none } :: rest) a w := by
 refine step_val (v := .agg (bookC nilS nilS nilS nilS nilS nilS)) (w' := w) rfl ?_ ?_
 . simp only [execOp, Array.map_empty, Sem.run_bind, build_book, Result.andThen_ok, Sem.run_pure, List.map_toArray, List.map_nil]
 . refine step_val (v := .pointer (some ⟨w.heap.size, 0, none⟩)) (w' := w.alloc (.cells (bookC nilS nilS nilS nilS nilS nilS) 42 (0, 0))) rfl ?_ h; simp only [execOp, hx, Sem.run_bind, box_book, Result.andThen_ok, Sem.run_pure]
structure NJ (w wr : World) (h0 bb rb : Nat) (want : Value) (wl : List Opt) (rc : Array Value) : Prop where
 bk : ∃ D, BookO wr bb D /\ ∀ g, D.Has g -> h0 <= g
 wt : BRow 91 2 wr want wl.length (oV wl)
 wb : ∀ g, want.ownBlock = some g -> g < h0 /\ g ≠ bb
 rl : wr.heap[rb]? = some (.cells rc 64 (0, 0))
 bl : Below w.heap.size w wr
 lt : rb < h0 /\ rb ≠ bb /\ bb < h0 /\ w.heap.size <= rb /\ w.heap.size <= bb
 hs : h0 <= wr.heap.size
end Go.Proofs.YtignponfoheaeaaGreat
