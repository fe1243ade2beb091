import Derived.Test.YtkfcjcbjefpliaaN23
import Derived.Test.YtkfcjcbjefpliaaTgGrown
namespace Go.Proofs.Ytkfcjcbjefpliaa
open Go.RowKit Go.Tg Go.Maps Go.Sort

theorem drewN_two (w : World) (a b : Nat) : (w.drewN a).drewN b = w.drewN (a + b) := by simp
theorem grown_one (w : World) (o : Obj) (a : Nat) : ∃ n os, (w.alloc o).drewN a = grow (w.drewN n) os := ⟨a, #[o], by rw [alloc_eq_grow]; rfl⟩
theorem grown_two (w : World) (o : Obj) (a b : Nat) : ∃ n os, ((w.alloc o).drewN a).drewN b = grow (w.drewN n) os := ⟨a + b, #[o], by rw [drewN_two, alloc_eq_grow]; rfl⟩
theorem grown_call2 {P : Program} {f : FuncId} {args : Array Value} {w : World} {n : Nat} {os : Array Obj} {v : Value}
    (h : Calls P f args (grow (w.drewN n) os) fun e w' => e = .returned v ∧ ∃ n' os', w' = grow ((grow (w.drewN n) os).drewN n') os') : Calls P f args (grow (w.drewN n) os) fun e w'' => e = .returned v ∧ ∃ p : GB, w'' = grow (w.drewN p.n) p.os :=
  h.mono fun _ _ ⟨he, n', os', hq⟩ => ⟨he, ⟨n + n', os ++ os'⟩, by rw [hq, ← grow_grow, ← drewN_two]; rfl⟩
theorem grown_call0 {P : Program} {f : FuncId} {args : Array Value} {w : World} {n : Nat} {os : Array Obj} {v : Value}
    (h : Calls P f args (grow (w.drewN n) os) fun e w' => e = .returned v ∧ w' = grow (w.drewN n) os) : Calls P f args (grow (w.drewN n) os) fun e w'' => e = .returned v ∧ ∃ p : GB, w'' = grow (w.drewN p.n) p.os :=
  h.mono fun _ _ ⟨he, hq⟩ => ⟨he, ⟨n, os⟩, hq⟩

set_option maxHeartbeats 1000000 in
set_option maxRecDepth 100000 in
theorem sent_grow {w : World} {S : Nat → Prop} {b : Nat} {st : NetS} {loc : Int → Int → Nat} {lv av cv : Value} (h : NetV w S b st loc lv av cv) (p q : Int) (hp : I64 p) (hq : I64 q) :
    Calls Try.prog 15 #[.pointer (some ⟨b, 0, none⟩), .agg #[.int .i64 p, .int .i64 q]] w fun e w' => e = .returned (.int .i64 ((st.at' p q).getD (0, 0)).1) ∧ ∃ n os, w' = grow (w.drewN n) os := by
  obtain ⟨mo, rfl⟩ := h.mapVal
  have hc1 : w.cell? ⟨b, 1, none⟩ = some (.map mo) := by simp [World.cell?, h.blk]
  have hbl : b < w.heap.size := (Array.getElem?_eq_some_iff.1 h.blk).1
  have heq := eql24a
  have hen := eql54n
  have hes := eql54s
  cases hat : st.at' p q with
  | none =>
    have hl1 : ∀ n, (Instr.lookup 49 (.map mo) (.agg #[.int .i64 p, .int .i64 q]) false).run Try.prog ((w.alloc (.cells #[.int .i64 p, .int .i64 q] 39)).drewN n) = .ok (.pointer none) ((w.alloc (.cells #[.int .i64 p, .int .i64 q] 39)).drewN n) :=
      fun n => h.lookNone p q hp hq hat _ (fun k _ hk => Below.heap_alloc _ _ _ hk)
    clear h
    go_enter Try.func15, Try.ntmps15
    go_wp2_with fail
    go_quiet (fail)
    go_wp2_with fail
    go_ret
    exact ⟨rfl, grown_one _ _ _⟩
  | some v =>
    obtain ⟨s, l⟩ := v
    have hl1 : ∀ n, (Instr.lookup 49 (.map mo) (.agg #[.int .i64 p, .int .i64 q]) false).run Try.prog ((w.alloc (.cells #[.int .i64 p, .int .i64 q] 39)).drewN n) = .ok (.pointer (some ⟨loc p q, 0, none⟩)) ((w.alloc (.cells #[.int .i64 p, .int .i64 q] 39)).drewN n) :=
      fun n => h.lookSome p q hp hq hat _ (fun k _ hk => Below.heap_alloc _ _ _ hk)
    have hl2 : ∀ a n, (Instr.lookup 49 (.map mo) (.agg #[.int .i64 p, .int .i64 q]) false).run Try.prog (((w.alloc (.cells #[.int .i64 p, .int .i64 q] 39)).drewN a).drewN n) = .ok (.pointer (some ⟨loc p q, 0, none⟩)) (((w.alloc (.cells #[.int .i64 p, .int .i64 q] 39)).drewN a).drewN n) :=
      fun a n => h.lookSome p q hp hq hat _ (fun k _ hk => Below.heap_alloc _ _ _ hk)
    have hcs := (h.cntAt hat).1
    have hc0 : w.cell? ⟨loc p q, 0, none⟩ = some (.int .i64 s) := by simp [World.cell?, hcs]
    have hcl : loc p q < w.heap.size := (Array.getElem?_eq_some_iff.1 hcs).1
    clear h hcs
    go_enter Try.func15, Try.ntmps15
    go_wp2_with fail
    go_quiet (fail)
    go_wp2_with fail
    go_quiet (fail)
    go_wp2_with fail
    go_ret
    exact ⟨rfl, grown_two _ _ _ _⟩

set_option maxHeartbeats 1000000 in
set_option maxRecDepth 100000 in
theorem lost_grow {w : World} {S : Nat → Prop} {b : Nat} {st : NetS} {loc : Int → Int → Nat} {lv av cv : Value} (h : NetV w S b st loc lv av cv) (p q : Int) (hp : I64 p) (hq : I64 q) :
    Calls Try.prog 16 #[.pointer (some ⟨b, 0, none⟩), .agg #[.int .i64 p, .int .i64 q]] w fun e w' => e = .returned (.int .i64 ((st.at' p q).getD (0, 0)).2) ∧ ∃ n os, w' = grow (w.drewN n) os := by
  obtain ⟨mo, rfl⟩ := h.mapVal
  have hc1 : w.cell? ⟨b, 1, none⟩ = some (.map mo) := by simp [World.cell?, h.blk]
  have hbl : b < w.heap.size := (Array.getElem?_eq_some_iff.1 h.blk).1
  have heq := eql24a
  have hen := eql54n
  have hes := eql54s
  cases hat : st.at' p q with
  | none =>
    have hl1 : ∀ n, (Instr.lookup 49 (.map mo) (.agg #[.int .i64 p, .int .i64 q]) false).run Try.prog ((w.alloc (.cells #[.int .i64 p, .int .i64 q] 39)).drewN n) = .ok (.pointer none) ((w.alloc (.cells #[.int .i64 p, .int .i64 q] 39)).drewN n) :=
      fun n => h.lookNone p q hp hq hat _ (fun k _ hk => Below.heap_alloc _ _ _ hk)
    clear h
    go_enter Try.func16, Try.ntmps16
    go_wp2_with fail
    go_quiet (fail)
    go_wp2_with fail
    go_ret
    exact ⟨rfl, grown_one _ _ _⟩
  | some v =>
    obtain ⟨s, l⟩ := v
    have hl1 : ∀ n, (Instr.lookup 49 (.map mo) (.agg #[.int .i64 p, .int .i64 q]) false).run Try.prog ((w.alloc (.cells #[.int .i64 p, .int .i64 q] 39)).drewN n) = .ok (.pointer (some ⟨loc p q, 0, none⟩)) ((w.alloc (.cells #[.int .i64 p, .int .i64 q] 39)).drewN n) :=
      fun n => h.lookSome p q hp hq hat _ (fun k _ hk => Below.heap_alloc _ _ _ hk)
    have hl2 : ∀ a n, (Instr.lookup 49 (.map mo) (.agg #[.int .i64 p, .int .i64 q]) false).run Try.prog (((w.alloc (.cells #[.int .i64 p, .int .i64 q] 39)).drewN a).drewN n) = .ok (.pointer (some ⟨loc p q, 0, none⟩)) (((w.alloc (.cells #[.int .i64 p, .int .i64 q] 39)).drewN a).drewN n) :=
      fun a n => h.lookSome p q hp hq hat _ (fun k _ hk => Below.heap_alloc _ _ _ hk)
    have hcs := (h.cntAt hat).1
    have hc0 : w.cell? ⟨loc p q, 1, none⟩ = some (.int .i64 l) := by simp [World.cell?, hcs]
    have hcl : loc p q < w.heap.size := (Array.getElem?_eq_some_iff.1 hcs).1
    clear h hcs
    go_enter Try.func16, Try.ntmps16
    go_wp2_with fail
    go_quiet (fail)
    go_wp2_with fail
    go_quiet (fail)
    go_wp2_with fail
    go_ret
    exact ⟨rfl, grown_two _ _ _ _⟩

theorem NetI.sentG {W w : World} {N : Nat → Prop} {b : Nat} {st : NetS} (h : NetI W N b st w) (p q s : Int) (hp : I64 p) (hq : I64 q) (hs : ((st.at' p q).getD (0, 0)).1 = s) (n : Nat) (os : Array Obj) :
    Calls Try.prog 15 #[.pointer (some ⟨b, 0, none⟩), .agg #[.int .i64 p, .int .i64 q]] (grow (w.drewN n) os) fun e w'' => e = .returned (.int .i64 s) ∧ ∃ x : GB, w'' = grow (w.drewN x.n) x.os := by
  obtain ⟨S, loc, lv, av, cv, hv, hS⟩ := h.ex
  refine grown_call2 ?_
  rw [← hs]
  exact sent_grow (hv.keep (grown_keep (fun _ => False) w n os) (fun _ _ _ h => h)) p q hp hq
theorem NetI.lostG {W w : World} {N : Nat → Prop} {b : Nat} {st : NetS} (h : NetI W N b st w) (p q s : Int) (hp : I64 p) (hq : I64 q) (hs : ((st.at' p q).getD (0, 0)).2 = s) (n : Nat) (os : Array Obj) :
    Calls Try.prog 16 #[.pointer (some ⟨b, 0, none⟩), .agg #[.int .i64 p, .int .i64 q]] (grow (w.drewN n) os) fun e w'' => e = .returned (.int .i64 s) ∧ ∃ x : GB, w'' = grow (w.drewN x.n) x.os := by
  obtain ⟨S, loc, lv, av, cv, hv, hS⟩ := h.ex
  refine grown_call2 ?_
  rw [← hs]
  exact lost_grow (hv.keep (grown_keep (fun _ => False) w n os) (fun _ _ _ h => h)) p q hp hq
theorem NetI.lenG {W w : World} {N : Nat → Prop} {b : Nat} {st : NetS} (h : NetI W N b st w) (s : Int) (hs : (st.l.length : Int) = s) (n : Nat) (os : Array Obj) :
    Calls Try.prog 13 #[.pointer (some ⟨b, 0, none⟩)] (grow (w.drewN n) os) fun e w'' => e = .returned (.int .i64 s) ∧ ∃ x : GB, w'' = grow (w.drewN x.n) x.os := by
  obtain ⟨S, loc, lv, av, cv, hv, hS⟩ := h.ex
  refine grown_call0 ?_
  rw [← hs]
  exact len_any (hv.keep (grown_keep (fun _ => False) w n os) (fun _ _ _ h => h))
end Go.Proofs.Ytkfcjcbjefpliaa
