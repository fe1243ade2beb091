import Derived.Test.YtignponfoheaeaaGreatRAN
import Derived.Test.YtignponfoheaeaaGreatRAL
import Derived.Laws.IdiomStrings
set_option linter.unusedVariables false
set_option linter.unusedSimpArgs false
set_option maxHeartbeats 16000000
namespace Go.Tg
open Go Go.RowKit Go.Maps
theorem step_append_fl {P : Program} {TS T : TypeId} {k by' : Nat} (R : RowT P TS T k by') {w : World} {ops : Array Oper} {o : Oper} {a : Act} {K : Act -> World -> Prop} {Q : Exit -> Act -> World -> Prop} {E : Prop} (hgd : o.guard = none) (s x : Operand)
 (ho : o.op = .call { callee := .builtin .append, args := #[s, x], argTypes := #[TS, TS] }) (v : Value) (n : Nat) (us : List Value) (hs : a.eval s = v) (hown : BRow T k w v n us)
 (sa : Option Addr) (n' c : Nat) (us' : List Value) (hx : a.eval x = .slice sa n' c) (hnil : sa = none -> n' = 0 /\ c = 0) (hfl : ∀ ad, sa = some ad -> ∀ j u, us'[j]? = some u -> w.cell? (ad.add j) = some u) (hul : us'.length = n' * k) (h1 : ∀ u ∈ us', u.oneCell' = true) (hlen : n + n' <= 1000000)
 (h : ∀ v' w', BRow T k w' v' (n + n') (us ++ us') -> Keep (fun k => v.ownBlock = some k) w w' -> (v'.ownBlock = v.ownBlock \/ v'.ownBlock = some w.heap.size) -> K (a.put o.dst v') w') : if Region.wanted o (yielded ops a.tmps) = true then Oper.wp P o a w K Q else E := by
 rw [if_pos (by simp [Region.wanted, hgd])]; have hK := h; obtain ⟨i, z, hi, hz, hsz, hby, hzs⟩ := R.hi
 cases sa with
 | none =>
  obtain ⟨rfl, rfl⟩ := hnil rfl; have e : us' = [] := List.eq_nil_of_length_eq_zero (by rw [hul]; simp); subst e; have hrun := run_append_owned_none (P := P) (w := w) 0 TS o.type T i k R.ht hi v n us hown; unfold Oper.wp; simp [execOp, ho, resolve, invoke, builtin, hs, hx, hrun, Result.andThen]
  exact hK _ _ (by rw [List.append_nil]; exact hown) (Keep.refl _ _) (Or.inl rfl)
 | some ad =>
  obtain ⟨v', w', hrun, h2, h3, h4, h5⟩ := run_append_both (P := P) w TS o.type T i z k by' R.ht hi hz hsz hby hzs R.hk v n us hown ad n' c us' hul (hfl ad rfl) h1 (by unfold maxLen; omega)
   (by
    have := R.hb; have h2 : (n + n') * by' <= (n + n') * 1000 := Nat.mul_le_mul_left _ this
    omega)
  unfold Oper.wp execOp; simp only [ho, resolve, invoke, builtin, Sem.run_bind, Sem.run_pure, Result.andThen_ok, List.map_toArray, List.map_cons, List.map_nil, hs, hx, hrun]; exact hK _ _ h2 (keep_of_grown h3) h4
end Go.Tg
namespace Go.Proofs.YtignponfoheaeaaGreat
open Go.RowKit Go.Tg Go.Maps
def twoB (n : Nat) : ByteArray := ByteArray.mk #[UInt8.ofNat (n / 256), UInt8.ofNat n]
set_option maxRecDepth 100000 in
theorem low9_any (v : Nat) (w : World) (hv : v < 65536) : Calls Tryz.prog 264 #[.int .i64 (v : Int), .int .i64 2] w fun e w' => e = .returned (.string (twoB v)) /\ Below w.heap.size w w' := by
 unfold twoB; have hmk : ∀ w, (Instr.makeSlice 200 (.int .i64 2) (.int .i64 2)).run Tryz.prog w = .ok (.slice (some ⟨w.heap.size, 0, none⟩) 2 2) (w.alloc (.cells #[.int .u8 0, .int .u8 0] 5 (0, 0))) := fun w => by kernel_rfl
 have hcv : (convert 200 9 (.slice (some ⟨w.heap.size, 0, none⟩) 2 2)).run Tryz.prog (w.alloc (.cells #[.int .u8 ((v : Int) / 256), .int .u8 ((v : Int) % 256)] 5 (0, 0))) = .ok (.string ⟨#[UInt8.ofNat (v / 256), UInt8.ofNat v]⟩) (w.alloc (.cells #[.int .u8 ((v : Int) / 256), .int .u8 ((v : Int) % 256)] 5 (0, 0))) := by
  have hx := at1 w (.cells #[.int .u8 ((v : Int) / 256), .int .u8 ((v : Int) % 256)] 5 (0, 0)); refine run_convert_bytes_back (P := Tryz.prog) _ 200 9 5 ⟨w.heap.size, 0, none⟩ 2 [UInt8.ofNat (v / 256), UInt8.ofNat v] Tryz.underlying200 Tryz.underlying5 Tryz.underlying9 (fun j hj => ?_); rw [Addr.add_lit, Nat.zero_add]; have e1 : (UInt8.ofNat (v / 256)).toNat = v / 256 := by rw [UInt8.toNat_ofNat']; omega
  have e2 : (UInt8.ofNat v).toNat = v % 256 := by rw [UInt8.toNat_ofNat']
  match j, hj with
  | 0, _ => simp only [List.getElem_cons_zero]; rw [e1]; exact cellOf hx 0 _ (by simp)
  | 1, _ => simp only [List.getElem_cons_zero, List.getElem_cons_succ]; rw [e2]; exact cellOf hx 1 _ (by simp)
 go_enter Tryz.func264, Tryz.ntmps264; go_wp2_with fail; refine wp_loop_rounds 3 ?_; rw [rounds_succ]; go_wp2_with fail; rw [rounds_succ]; go_wp2_with fail; rw [rounds_succ]; go_wp2_with fail; go_ret; exact ⟨rfl, (Below.refl _ _).alloc (Nat.le_refl _) _⟩
set_option maxRecDepth 100000 in
theorem two9_any (v : Nat) (w : World) (hv : v < 65536) : Calls Tryz.prog 249 #[.int .i64 (v : Int)] w fun e w' => e = .returned (.string (twoB v)) /\ Below w.heap.size w w' := by
 have HL := H_ (low9_any v w hv); go_enter Tryz.func249, Tryz.ntmps249; go_wp2_with fail; refine HL.out.mono ?_; rintro e w1 ⟨rfl, hb⟩; have HB := H_ hb; clear hb; go_wp2_with fail; go_ret; exact ⟨rfl, HB.out⟩
end Go.Proofs.YtignponfoheaeaaGreat
