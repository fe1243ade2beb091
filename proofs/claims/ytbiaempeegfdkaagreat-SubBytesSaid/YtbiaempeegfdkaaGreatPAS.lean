import Derived.Test.YtbiaempeegfdkaaGreatPAQ
import Derived.Test.YtbiaempeegfdkaaGreatPAO
import Derived.Test.YtbiaempeegfdkaaGreatPAA
import Derived.Deep.DeepCutAuto
import Derived.Deep.CutBlock
set_option linter.unusedVariables false
set_option linter.unusedSimpArgs false
set_option maxHeartbeats 16000000
namespace Go.Proofs.YtbiaempeegfdkaaGreat
open Go.RowKit Go.Tg Go.Maps
theorem set4' {w : World} {b : Nat} {T : TypeId} {a0 a1 a2 a3 : Value} (h : w.heap[b]? = some (.cells #[a0, a1, a2, a3] T (0, 0))) (v0 v1 v2 v3 : Value) :
 ((((w.setCell ⟨b, 0, none⟩ v0).setCell ⟨b, 1, none⟩ v1).setCell ⟨b, 2, none⟩ v2).setCell ⟨b, 3, none⟩ v3).heap[b]? = some (.cells #[v0, v1, v2, v3] T (0, 0)) := by
 have := set_block (set_block (set_block (set_block h 0 v0) 1 v1) 2 v2) 3 v3
 simpa using this
theorem keep4' (w : World) (b : Nat) (v0 v1 v2 v3 : Value) : Keep (fun g => g = b) w ((((w.setCell ⟨b, 0, none⟩ v0).setCell ⟨b, 1, none⟩ v1).setCell ⟨b, 2, none⟩ v2).setCell ⟨b, 3, none⟩ v3) :=
 ((((Keep.refl (fun g => g = b) w).setCell ⟨b, 0, none⟩ (Or.inr rfl) v0).setCell ⟨b, 1, none⟩ (Or.inr rfl) v1).setCell ⟨b, 2, none⟩ (Or.inr rfl) v2).setCell ⟨b, 3, none⟩ (Or.inr rfl) v3
theorem pk_cells' : (Tryz.prog.info? 59).map (·.size) = some 4 := by kernel_rfl
theorem results_cell_tmp' {P : Program} {fn : Func} {p t : Tmp} {ty : TypeId} (h : fn.results = #[.cell p ty, .tmp t]) (tmps : Array Value) (w : World) (g : Nat) (T : TypeId) (cs : Array Value) (fr : Nat × Nat) (d : TypeDesc)
 (hp : tmps.getD p undef = .pointer (some ⟨g, 0, none⟩)) (hg : w.heap[g]? = some (.cells cs T fr))
 (hu : P.underlying ty = some d) (hd : (match d with | .struct _ | .array _ _ => true | _ => false) = true) (hi : (P.info? ty).map (·.size) = some cs.size) :
 (results fn tmps).run P w = .ok (.tuple #[.agg cs, tmps.getD t undef]) w := by
 have hp' : tmps[p]?.getD undef = .pointer (some ⟨g, 0, none⟩) := by simpa using hp
 simp [results, h, hp', asAddr, run_loadVar_row w g T ty cs fr d hg hu hd hi]
def noPk : Pk := ⟨0, 0, [], noB⟩
def gdS (s : ByteArray) : Pk × Int :=
 if s.size < 4 then (noPk, 5) else if get2 s 2 < 4 then (noPk, 4) else if 1492 < get2 s 2 then (noPk, 2) else if (s.size : Int) < get2 s 2 then (noPk, 5)
 else (⟨((s.data.toList.getD 0 0).toNat : Int), ((s.data.toList.getD 1 0).toNat : Int), [], s.extract 4 (get2 s 2).toNat⟩, 0)
set_option maxRecDepth 100000 in
theorem getData_any (s : ByteArray) (w : World) (hs : s.size <= 1000000000) : Calls Tryz.prog 45 #[.string s] w fun e w' => e = .returned (.tuple #[pkV (gdS s).1 (.slice none 0 0), .int .i64 (gdS s).2]) /\ Below w.heap.size w w' := by
 have HG := H_ (fun w => wget_any s 2 w hs (by decide)); have hb0 := (Below.refl w.heap.size w).alloc (Nat.le_refl _) (.cells #[.int .i64 0, .int .i64 0, .slice none 0 0, .string ⟨#[]⟩] 59 (0, 0)); have x0 := at1 w (.cells #[.int .i64 0, .int .i64 0, .slice none 0 0, .string ⟨#[]⟩] 59 (0, 0)); have HB := H_ (A_ hb0 (A_ x0 (alloc1 w (.cells #[.int .i64 0, .int .i64 0, .slice none 0 0, .string ⟨#[]⟩] 59 (0, 0))))); have y0 := cellOf x0 0 _ rfl; have y1 := cellOf x0 1 _ rfl; have y2 := cellOf x0 2 _ rfl; have y3 := cellOf x0 3 _ rfl; have fz := fun o => fzOf x0 o; clear hb0 x0; have fin : ∀ (W : World) (v0 v1 v2 v3 : Value), Below w.heap.size w W -> Below w.heap.size w ((((W.setCell ⟨w.heap.size, 0, none⟩ v0).setCell ⟨w.heap.size, 1, none⟩ v1).setCell ⟨w.heap.size, 2, none⟩ v2).setCell ⟨w.heap.size, 3, none⟩ v3) := fun W v0 v1 v2 v3 hW => hW.trans ((keep4' W w.heap.size v0 v1 v2 v3).below hW.size (fun k hk he => by omega)); have HF := H_ fin; clear fin
 by_cases h4 : s.size < 4
 . have HD := H_ (show gdS s = (noPk, 5) from if_pos h4); have q1 : decide ((s.size : Int) < 4) = true := by simp; omega
   go_enter Tryz.func45, Tryz.ntmps45; go_wp2_with fail; refine bodyPost_ret (results_cell_tmp' rfl _ _ w.heap.size 59 _ (0, 0) _ rfl HB.out.2.1 Tryz.underlying59 rfl pk_cells') rfl ?_; rw [HD.out]; exact ⟨rfl, HB.out.1⟩
 . have q1 : decide ((s.size : Int) < 4) = false := by simp; omega
   have e2 : get2E s 2 = 0 := if_pos (by omega); rw [e2] at HG; have hz := get2_bd s 2
   have HD : Hid (gdS s = if get2 s 2 < 4 then (noPk, 4) else if 1492 < get2 s 2 then (noPk, 2) else if (s.size : Int) < get2 s 2 then (noPk, 5)
    else (⟨((s.data.toList.getD 0 0).toNat : Int), ((s.data.toList.getD 1 0).toNat : Int), [], s.extract 4 (get2 s 2).toNat⟩, 0)) := H_ (if_neg h4)
   generalize get2 s 2 = n at *
   by_cases h5 : n < 4
   . rw [if_pos h5] at HD; go_enter Tryz.func45, Tryz.ntmps45; go_wp2_with fail; refine (HG.out _).mono ?_; rintro e w1 ⟨rfl, rfl⟩; go_wp2_with fail; refine bodyPost_ret (results_cell_tmp' rfl _ _ w.heap.size 59 _ (0, 0) _ rfl HB.out.2.1 Tryz.underlying59 rfl pk_cells') rfl ?_; rw [HD.out]; exact ⟨rfl, HB.out.1⟩
   . rw [if_neg h5] at HD
     by_cases h6 : 1492 < n
     . rw [if_pos h6] at HD; go_enter Tryz.func45, Tryz.ntmps45; go_wp2_with fail; refine (HG.out _).mono ?_; rintro e w1 ⟨rfl, rfl⟩; go_wp2_with fail; refine bodyPost_ret (results_cell_tmp' rfl _ _ w.heap.size 59 _ (0, 0) _ rfl HB.out.2.1 Tryz.underlying59 rfl pk_cells') rfl ?_; rw [HD.out]; exact ⟨rfl, HB.out.1⟩
     . rw [if_neg h6] at HD
       by_cases h7 : (s.size : Int) < n
       . rw [if_pos h7] at HD; go_enter Tryz.func45, Tryz.ntmps45; go_wp2_with fail; refine (HG.out _).mono ?_; rintro e w1 ⟨rfl, rfl⟩; go_wp2_with fail; refine bodyPost_ret (results_cell_tmp' rfl _ _ w.heap.size 59 _ (0, 0) _ rfl HB.out.2.1 Tryz.underlying59 rfl pk_cells') rfl ?_; rw [HD.out]; exact ⟨rfl, HB.out.1⟩
       . rw [if_neg h7] at HD; obtain ⟨m, rfl⟩ : ∃ m : Nat, n = (m : Int) := ⟨n.toNat, by omega⟩; have k0 : 0 < s.size := by omega
         have k1 : 1 < s.size := by omega
         have k1' : (1 : Int) < (s.size : Int) := by omega
         have v0 : s.data.toList.getD 0 0 = s[0] := by rw [List.getD_eq_getElem?_getD, List.getElem?_eq_getElem (by rw [Array.length_toList]; exact k0)]; rfl
         have v1 : s.data.toList.getD 1 0 = s[1] := by rw [List.getD_eq_getElem?_getD, List.getElem?_eq_getElem (by rw [Array.length_toList]; exact k1)]; rfl
         rw [v0, v1, Int.toNat_natCast] at HD; clear v0 v1; have HC := H_ (fun w => sclone_any (s.extract 4 m) w (by rw [ByteArray.size_extract]; omega)); have k4 : 4 <= m := by omega
         have km : m <= s.size := by omega
         go_enter Tryz.func45, Tryz.ntmps45; go_wp2_with fail; refine (HG.out _).mono ?_; rintro e w1 ⟨rfl, rfl⟩
         go_upto_region 10 with (fail)
         refine wp_region_H (rgH 0 0) (fun _ : World => True) (by kernel_rfl) ?_; refine hatP 0 rfl (by intro W _; go_simp; try rfl) ?_; simp only [aZ, aC, aD]; refine hatP 1 rfl (by intro W _; go_simp; try rfl) ?_; simp only [aZ, aC, aD]; refine hatP 2 rfl (by intro W _; go_simp; try rfl) ?_; simp only [aZ, aC, aD]; refine hatP 3 rfl (by intro W _; go_simp; try rfl) ?_; simp only [aZ, aC, aD]; refine hatP 4 rfl (by intro W _; go_simp; try rfl) ?_; simp only [aZ, aC, aD]; refine hatP 5 rfl (by intro W _; go_simp; try rfl) ?_; simp only [aZ, aC, aD]; refine hatP 6 rfl (by intro W _; go_simp; try rfl) ?_; simp only [aZ, aC, aD]; refine hatP 7 rfl (by intro W _; go_simp; try rfl) ?_; simp only [aZ, aC, aD]; refine hatP 8 rfl (by intro W _; go_simp; try rfl) ?_; simp only [aZ, aC, aD]; refine hone 9 rfl fun K hK => ?_
         try go_simp
         refine (HC.out _).mono ?_; rintro e w2 ⟨rfl, hb⟩; have hb1 : Below (w.alloc (.cells #[.int .i64 0, .int .i64 0, .slice none 0 0, .string ⟨#[]⟩] 59 (0, 0))).heap.size (w.alloc (.cells #[.int .i64 0, .int .i64 0, .slice none 0 0, .string ⟨#[]⟩] 59 (0, 0))) w2 := Below.trans (Below.refl _ _).drew hb; have hx := (hb1.block w.heap.size (by rw [HB.out.2.2]; omega)).trans HB.out.2.1; have HB1 := H_ (A_ hx (HB.out.1.trans (hb1.mono HB.out.1.size))); clear hb hb1 y0 y1 y2 y3 fz; have y0 := cellOf hx 0 _ rfl; have y1 := cellOf hx 1 _ rfl; have y2 := cellOf hx 2 _ rfl; have y3 := cellOf hx 3 _ rfl; have fz := fun o => fzOf hx o; clear hx; refine hK _ _ (fun _ => trivial) ?_
         try simp only [aZ, aA, aE, aB, aC, aD]
         refine hone 10 rfl fun K hK => ?_
         try go_simp
         refine hK _ _ (fun _ => trivial) ?_
         try simp only [aZ, aA, aE, aB, aC, aD]
         refine hone 11 rfl fun K hK => ?_
         try go_simp
         refine hK _ _ (fun _ => trivial) ?_
         try simp only [aZ, aA, aE, aB, aC, aD]
         refine hone 12 rfl fun K hK => ?_
         try go_simp
         refine hK _ _ (fun _ => trivial) ?_
         try simp only [aZ, aA, aE, aB, aC, aD]
         refine hend 13 ?_; simp only [aF, aG]; go_wp2_with fail
         have hw : ∀ x : UInt8, IntKind.i64.wrap (x.toNat : Int) = (x.toNat : Int) := fun x => by
          have := x.toNat_lt; unfold IntKind.wrap; simp [IntKind.bits, IntKind.signed]
          omega
         simp only [hw]; refine bodyPost_ret (results_cell_tmp' rfl _ _ w.heap.size 59 _ (0, 0) _ rfl (set4' HB1.out.1 _ _ _ _) Tryz.underlying59 rfl pk_cells') rfl ?_; rw [HD.out]; exact ⟨rfl, HF.out _ _ _ _ _ HB1.out.2⟩
def by0 (s : ByteArray) (i : Nat) : Nat := (s.data.toList.getD i 0).toNat
theorem by0_at (s : ByteArray) (i : Nat) (h : i < s.size) : by0 s i = s[i].toNat := by
 unfold by0; rw [List.getD_eq_getElem?_getD, List.getElem?_eq_getElem (by rw [Array.length_toList]; exact h)]; rfl
def goS : Nat -> ByteArray -> List Opt -> List Opt × Int
 | 0, _, out => (out, 0)
 | n + 1, s, out =>
  if s.size = 0 then (out, 0) else if s.size = 1 then ([], 5) else if by0 s 0 = 0 \/ by0 s 1 < 2 then ([], 4) else if s.size < by0 s 1 then ([], 5) else if 30 <= out.length then ([], 2)
  else goS n (s.extract (by0 s 1) s.size) (out ++ [⟨(by0 s 0 : Int), s.extract 2 (by0 s 1)⟩])
structure GoI (w0 w : World) (x : Nat) (cur : ByteArray) (out : List Opt) (ov : Value) (R : List Opt × Int) : Prop where
 lt : cur.size < x
 le : cur.size <= 1000000000
 res : goS x cur out = R
 row : ORow w w0.heap.size ov out
 len : out.length <= 30
 bl : Below w0.heap.size w0 w
set_option maxRecDepth 100000 in
theorem getOptions_any (s : ByteArray) (w : World) (hs : s.size <= 1000000000) : Calls Tryz.prog 47 #[.string s] w fun e w' => ∃ ov, e = .returned (.tuple #[ov, .int .i64 (goS (s.size + 1) s []).2]) /\ ORow w' w.heap.size ov (goS (s.size + 1) s []).1 /\ Below w.heap.size w w' := by
 have HI0 := H_ (show GoI w w (s.size + 1) s [] (.slice none 0 0) (goS (s.size + 1) s []) from ⟨by omega, hs, rfl, ORow.nil _ _, by decide, Below.refl _ _⟩); have HC := H_ (fun (s : ByteArray) w (h : s.size <= 1000000000) => sclone_any s w (by omega)); generalize goS (s.size + 1) s [] = R at *; clear hs; go_enter Tryz.func47, Tryz.ntmps47; go_wp2_with fail
 go_loopg [0, 4] (s.size + 1) (fun x cv ov wr => ∃ cur out, cv = .string cur /\ Hid (GoI w wr x cur out ov R))
 case atStart => exact ⟨s, [], rfl, HI0⟩
 case round =>
  obtain ⟨cur, out, rfl, HI⟩ := hrel; obtain ⟨n, rfl⟩ : ∃ n, gk = n + 1 := ⟨gk - 1, by have := HI.out.lt; omega⟩; have hR := HI.out.res; rw [goS] at hR
  by_cases h0 : cur.size = 0
  . have e0 : cur = ⟨#[]⟩ := by
     cases cur with | mk d => cases d with | mk l => cases l with | nil => rfl | cons a l => cases h0
    rw [if_pos h0] at hR; subst hR; subst e0; clear h0; go_wp2_with fail; go_ret2; exact ⟨_, rfl, HI.out.row, HI.out.bl⟩
  . rw [if_neg h0] at hR; have e1 : cur.toList.isEmpty = false := by rw [isE]; simp [h0]
    by_cases h1 : cur.size = 1
    . rw [if_pos h1] at hR; have q1 : ((cur.size : Int) == 1) = true := by rw [h1]; rfl
      subst hR; go_wp2_with fail; go_ret2; exact ⟨_, rfl, ORow.nil _ _, HI.out.bl⟩
    . rw [if_neg h1] at hR; have q1 : ((cur.size : Int) == 1) = false := by simp; omega
      have k0 : 0 < cur.size := by omega
      have k1 : 1 < cur.size := by omega
      have k1' : (1 : Int) < (cur.size : Int) := by omega
      rw [by0_at cur 0 k0, by0_at cur 1 k1] at hR
      by_cases h2 : cur[0].toNat = 0 \/ cur[1].toNat < 2
      . rw [if_pos h2] at hR; subst hR
        by_cases h3 : cur[0].toNat = 0
        . have q2 : ((cur[0].toNat : Int) == 0) = true := by rw [h3]; rfl
          go_wp2_with fail; go_ret2; exact ⟨_, rfl, ORow.nil _ _, HI.out.bl⟩
        . have q2 : ((cur[0].toNat : Int) == 0) = false := by simp; omega
          have q3 : decide ((cur[1].toNat : Int) < 2) = true := by simp; omega
          go_wp2_with fail; go_ret2; exact ⟨_, rfl, ORow.nil _ _, HI.out.bl⟩
      . rw [if_neg h2] at hR; have q2 : ((cur[0].toNat : Int) == 0) = false := by simp; omega
        have q3 : decide ((cur[1].toNat : Int) < 2) = false := by simp; omega
        have hw1 : wrap64 (cur[1].toNat : Int) = (cur[1].toNat : Int) := IntWalk.wrap64_in _ (by have := cur[1].toNat_lt; omega); have hw0 : wrap64 (cur[0].toNat : Int) = (cur[0].toNat : Int) := IntWalk.wrap64_in _ (by have := cur[0].toNat_lt; omega)
        by_cases h4 : cur.size < cur[1].toNat
        . rw [if_pos h4] at hR; have q4 : decide ((cur.size : Int) < (cur[1].toNat : Int)) = true := by simp; omega
          subst hR; go_wp2_with fail; go_ret2; exact ⟨_, rfl, ORow.nil _ _, HI.out.bl⟩
        . rw [if_neg h4] at hR; have q4 : decide ((cur.size : Int) < (cur[1].toNat : Int)) = false := by simp; omega
          obtain ⟨sa, sc, hov⟩ := HI.out.row.form; subst hov
          by_cases h5 : 30 <= out.length
          . rw [if_pos h5] at hR; have q5 : decide ((30 : Int) <= (out.length : Int)) = true := by simp; omega
            subst hR; go_wp2_with fail; go_ret2; exact ⟨_, rfl, ORow.nil _ _, HI.out.bl⟩
          . rw [if_neg h5] at hR; have q5 : decide ((30 : Int) <= (out.length : Int)) = false := by simp; omega
            have HR := H_ hR; have HQ := H_ (A_ h2 (A_ h4 h5)); have k2 : 2 <= cur[1].toNat := by omega
            have km : cur[1].toNat <= cur.size := by omega
            clear hR h2 h4 h5 h1 h0 HI0; have k2' : (2 : Int) <= (cur[1].toNat : Int) := by omega
            have km' : (cur[1].toNat : Int) <= (cur.size : Int) := by omega
            have hsz : (cur.extract 2 cur[1].toNat).size <= 1000000000 := by rw [ByteArray.size_extract]; have := HI.out.le; omega
            have HC1 := H_ (fun w => HC.out (cur.extract 2 cur[1].toNat) w hsz); clear hsz
            go_upto_region 12 with (fail)
            refine wp_region_H (rgH 0 0) (fun _ : World => True) (by kernel_rfl) ?_; refine hatP 0 rfl (by intro W _; go_simp; try rfl) ?_; simp only [aZ, aC, aD]; refine hatP 1 rfl (by intro W _; go_simp; try rfl) ?_; simp only [aZ, aC, aD]; refine hatP 2 rfl (by intro W _; go_simp; try rfl) ?_; simp only [aZ, aC, aD]; refine hatP 3 rfl (by intro W _; go_simp; try rfl) ?_; simp only [aZ, aC, aD]; refine hatP 4 rfl (by intro W _; go_simp; try rfl) ?_; simp only [aZ, aC, aD]; refine hatP 5 rfl (by intro W _; go_simp; try rfl) ?_; simp only [aZ, aC, aD]; refine hatP 6 rfl (by intro W _; go_simp; try rfl) ?_; simp only [aZ, aC, aD]; refine hone 7 rfl fun K hK => ?_
            try go_simp
            refine (HC1.out _).mono ?_; rintro e w2 ⟨rfl, hb⟩; have HB := H_ (Below.trans (Below.refl _ _).drew hb); clear hb; refine hK _ _ (fun _ => trivial) ?_
            try simp only [aZ, aA, aE, aB, aC, aD]
            refine hone 8 rfl fun K hK => ?_
            try go_simp
            refine hK _ _ (fun _ => trivial) ?_
            try simp only [aZ, aA, aE, aB, aC, aD]
            refine hone 9 rfl fun K hK => ?_
            try go_simp
            refine hK _ _ (fun _ => trivial) ?_
            try simp only [aZ, aA, aE, aB, aC, aD]
            refine wpAnyH_1 10 rfl (by kernel_rfl) ?_; intro K hK
            have hwr : IntKind.i64.wrap (cur[0].toNat : Int) = (cur[0].toNat : Int) := by
             have := cur[0].toNat_lt; unfold IntKind.wrap; simp [IntKind.bits, IntKind.signed]
             omega
            have hrow := (HI.out.row.below HB.out).below ((Below.refl w2.heap.size w2).alloc (Nat.le_refl _) (.cells #[.int .i64 (IntKind.i64.wrap (cur[0].toNat : Int)), .string (cur.extract 2 cur[1].toNat)] 132 (0, 0))); have hb2 : Below w.heap.size w (w2.alloc (.cells #[.int .i64 (IntKind.i64.wrap (cur[0].toNat : Int)), .string (cur.extract 2 cur[1].toNat)] 132 (0, 0))) := (HI.out.bl.trans (HB.out.mono HI.out.bl.size)).alloc (Nat.le_trans HI.out.bl.size HB.out.size) _; refine step_append_opt rfl _ _ rfl _ out rfl hrow w2.heap.size 1 (IntKind.i64.wrap (cur[0].toNat : Int)) (cur.extract 2 cur[1].toNat) rfl (at1 w2 _) (by have := HI.out.len; omega) hb2.size ?_; intro g cap w3 r3 k3 o3; rw [show (out ++ [(⟨(IntKind.i64.wrap (cur[0].toNat : Int)), cur.extract 2 cur[1].toNat⟩ : Opt)]).length = out.length + 1 by rw [List.length_append]; rfl] at r3
            have hI : GoI w w3 n (cur.extract cur[1].toNat cur.size) (out ++ [⟨(IntKind.i64.wrap (cur[0].toNat : Int)), cur.extract 2 cur[1].toNat⟩]) (.slice (some ⟨g, 0, none⟩) (out.length + 1) cap) R := {
             lt := by rw [ByteArray.size_extract]; have := HI.out.lt; omega
             le := by rw [ByteArray.size_extract]; have := HI.out.le; omega
             res := by rw [hwr]; exact HR.out
             row := r3
             len := by rw [List.length_append]; have := HQ.out.2.2; show out.length + 1 <= 30; omega
             bl := hb2.trans (k3.below hb2.size (fun k hk he => by have := (hrow.lt k he).2; omega)) }
            have HI3 := H_ hI; clear hI hb2 hrow r3 k3 o3 HR; refine hK _ _ (fun _ => trivial) ?_
            try simp only [aZ, aA, aE, aB, aC, aD]
            refine hone 11 rfl fun K hK => ?_
            try go_simp
            refine hK _ _ (fun _ => trivial) ?_
            try simp only [aZ, aA, aE, aB, aC, aD]
            refine hend 12 ?_; simp only [aF, aG]; go_wp2_with fail
            go_roundg n
            case measure => omega
            case rel => exact ⟨_, _, rfl, HI3⟩
def getS (s : ByteArray) : Pk × Int :=
 if (gdS s).2 ≠ 0 then gdS s else if hasO (gdS s).1.code = false then gdS s
 else if (goS ((gdS s).1.d.size + 1) (gdS s).1.d []).2 ≠ 0 then (noPk, (goS ((gdS s).1.d.size + 1) (gdS s).1.d []).2)
 else (⟨(gdS s).1.code, (gdS s).1.id, (goS ((gdS s).1.d.size + 1) (gdS s).1.d []).1, noB⟩, 0)
theorem gdS_d (s : ByteArray) : (gdS s).1.d.size <= s.size /\ (gdS s).1.o = [] := by
 unfold gdS
 repeat' split
 all_goals first | exact ⟨Nat.zero_le _, rfl⟩ | exact ⟨by show (s.extract 4 _).size <= _; rw [ByteArray.size_extract]; omega, rfl⟩
set_option maxRecDepth 100000 in
theorem oget_any (s : ByteArray) (w : World) (hs : s.size <= 1000000000) : Calls Tryz.prog 21 #[.string s] w fun e w' => ∃ ov, e = .returned (.tuple #[pkV (getS s).1 ov, .int .i64 (getS s).2]) /\ ORow w' w.heap.size ov (getS s).1.o /\ Below w.heap.size w w' := by
 have HD := H_ (fun w => getData_any s w hs); have hd := gdS_d s; obtain ⟨G, hG⟩ : ∃ G, getS s = G := ⟨_, rfl⟩; rw [hG]; unfold getS at hG; have HO := H_ (fun w => hasO_any (gdS s).1.code w); have HP := H_ (fun w => getOptions_any (gdS s).1.d w (by omega)); have hb0 := (Below.refl w.heap.size w).alloc (Nat.le_refl _) (.cells #[.int .i64 0, .int .i64 0, .slice none 0 0, .string ⟨#[]⟩] 59 (0, 0)); have x0 := at1 w (.cells #[.int .i64 0, .int .i64 0, .slice none 0 0, .string ⟨#[]⟩] 59 (0, 0)); have HB := H_ (A_ hb0 (A_ x0 (alloc1 w (.cells #[.int .i64 0, .int .i64 0, .slice none 0 0, .string ⟨#[]⟩] 59 (0, 0))))); clear hs hb0 x0; generalize gdS s = D at *; obtain ⟨⟨c, i, o, d⟩, er⟩ := D; have ho : o = [] := hd.2; subst ho
 dsimp only at HD HO HP hd hG
 generalize goS (d.size + 1) d [] = R at *; obtain ⟨ro, re⟩ := R
 dsimp only at HP hG
 have HG := H_ hG.symm; clear hG; unfold pkV at HD; go_enter Tryz.func21, Tryz.ntmps21; go_wp2_with fail; refine (HD.out _).mono ?_; rintro e w1 ⟨rfl, hb1⟩; have y0 := (hb1.block w.heap.size (by rw [HB.out.2.2]; omega)).trans HB.out.2.1; have H1 := H_ (A_ y0 (HB.out.1.trans (hb1.mono HB.out.1.size))); clear hb1 y0; have hlt := (Array.getElem?_eq_some_iff.1 H1.out.1).1; have y := (((Below.refl w1.heap.size w1).alloc (Nat.le_refl _) (.cells #[.int .i64 c, .int .i64 i, .slice none 0 0, .string d] 59 (0, 0))).block w.heap.size hlt).trans H1.out.1; have HY := H_ y; have HW := H_ (H1.out.2.alloc H1.out.2.size (.cells #[.int .i64 c, .int .i64 i, .slice none 0 0, .string d] 59 (0, 0))); have y0 := cellOf y 0 _ rfl; have y1 := cellOf y 1 _ rfl; have y2 := cellOf y 2 _ rfl; have y3 := cellOf y 3 _ rfl; have fz := fun o => fzOf y o; have fin : ∀ (W : World) (v0 v1 v2 v3 : Value), Below w.heap.size w W -> Below w.heap.size w ((((W.setCell ⟨w.heap.size, 0, none⟩ v0).setCell ⟨w.heap.size, 1, none⟩ v1).setCell ⟨w.heap.size, 2, none⟩ v2).setCell ⟨w.heap.size, 3, none⟩ v3) := fun W v0 v1 v2 v3 hW => hW.trans ((keep4' W w.heap.size v0 v1 v2 v3).below hW.size (fun k hk he => by omega)); have HF := H_ fin; clear y fin hlt
 by_cases e1 : er = 0
 . subst e1; have HG := H_ (HG.out.trans (if_neg (fun h => h rfl))); obtain ⟨x, hx⟩ : ∃ x, hasO c = x := ⟨_, rfl⟩; rw [hx] at HG HO; cases x
   . have HG := H_ (HG.out.trans (if_pos rfl))
     go_wp2_with (refine (HO.out _).mono ?_; rintro e w2 ⟨rfl, rfl⟩)
     refine bodyPost_ret (results_cell_tmp' rfl _ _ w.heap.size 59 _ (0, 0) _ rfl (set4' HY.out _ _ _ _) Tryz.underlying59 rfl pk_cells') rfl ?_; rw [HG.out]; exact ⟨_, rfl, ORow.nil _ _, HF.out _ _ _ _ _ HW.out⟩
   . have HG := H_ (HG.out.trans (if_neg (by decide))); have HZ := H_ (at1 w1 (.cells #[.int .i64 c, .int .i64 i, .slice none 0 0, .string d] 59 (0, 0))); have HL := H_ (Array.getElem?_eq_some_iff.1 H1.out.1).1
     go_wp2_with (refine (HO.out _).mono ?_; rintro e w2 ⟨rfl, rfl⟩)
     refine (HP.out _).mono ?_; rintro e w3 ⟨ov, rfl, hr, hb3⟩; obtain ⟨sa, sc, rfl⟩ := hr.form; clear y0 y1 y2 y3 fz; have y := (hb3.block w.heap.size (by rw [alloc1]; have := HL.out; omega)).trans HY.out; have z := (hb3.block w1.heap.size (by rw [alloc1]; omega)).trans HZ.out; have y0 := cellOf y 0 _ rfl; have y1 := cellOf y 1 _ rfl; have y2 := cellOf y 2 _ rfl; have y3 := cellOf y 3 _ rfl; have fz := fun o => fzOf y o; have z0 := cellOf z 0 _ rfl; have z1 := cellOf z 1 _ rfl; have hwz : w.heap.size <= (w1.alloc (.cells #[.int .i64 c, .int .i64 i, .slice none 0 0, .string d] 59 (0, 0))).heap.size := by rw [alloc1]; have := HL.out; omega
     have HM := H_ (fun k (hk : (Value.slice sa ro.length sc).ownBlock = some k) => (show w.heap.size < k by have := (hr.lt k hk).2; rw [alloc1] at this; have := HL.out; omega)); have H3 := H_ (A_ y (A_ (HW.out.trans (hb3.mono HW.out.size)) (hr.base hwz))); clear y z hr hb3 hwz
     by_cases e2 : re = 0
     . subst e2; have HG := H_ (HG.out.trans (if_neg (fun h => h rfl))); go_wp2_with fail; refine bodyPost_ret (results_cell_tmp' rfl _ _ w.heap.size 59 _ (0, 0) _ rfl (set4' H3.out.1 _ _ _ _) Tryz.underlying59 rfl pk_cells') rfl ?_; rw [HG.out]; exact ⟨_, rfl, H3.out.2.2.keep (keep4' _ _ _ _ _ _) (fun k hk he => by have he : k = w.heap.size := he; have := HM.out k hk; omega), HF.out _ _ _ _ _ H3.out.2.1⟩
     . have q1 : (re == 0) = false := by simpa using e2
       have q2 : (re != 0) = true := by simpa using e2
       have HG := H_ (HG.out.trans (if_pos e2)); go_wp2_with fail; refine bodyPost_ret (results_cell_tmp' rfl _ _ w.heap.size 59 _ (0, 0) _ rfl (set4' H3.out.1 _ _ _ _) Tryz.underlying59 rfl pk_cells') rfl ?_; rw [HG.out]; exact ⟨_, rfl, ORow.nil _ _, HF.out _ _ _ _ _ H3.out.2.1⟩
 . have q1 : (er == 0) = false := by simpa using e1
   have q2 : (er != 0) = true := by simpa using e1
   have HG := H_ (HG.out.trans (if_pos e1)); go_wp2_with fail; refine bodyPost_ret (results_cell_tmp' rfl _ _ w.heap.size 59 _ (0, 0) _ rfl (set4' HY.out _ _ _ _) Tryz.underlying59 rfl pk_cells') rfl ?_; rw [HG.out]; exact ⟨_, rfl, ORow.nil _ _, HF.out _ _ _ _ _ HW.out⟩
end Go.Proofs.YtbiaempeegfdkaaGreat
