import Derived.Test.YtoblffnlopmebaaGreatQAW
import Derived.Test.YtoblffnlopmebaaGreatQAN
import Derived.Test.YtoblffnlopmebaaGreatQAY
import Derived.WideShapes
import Derived.ChangeAt
import Derived.OpenShut
import Derived.SizedLaws
import Derived.Test.YtoblffnlopmebaaGreatQAZ
set_option linter.unusedVariables false
set_option linter.unusedSimpArgs false
set_option maxHeartbeats 16000000
namespace Go.Proofs.YtoblffnlopmebaaGreat
open Go.RowKit Go.Tg Go.Maps Go.WideShapes
theorem list3 {α : Type} {l : List α} (h : l.length = 3) : ∃ a b c, l = [a, b, c] := by
 match l, h with
 | [a, b, c], _ => exact ⟨a, b, c, rfl⟩
theorem slice_formL {H : Type} {enc : TypeId × Value -> H} {w : World} {base : Nat} {spare : Nat -> Bool} {held : Bool} {fuel : Nat} {T E : TypeId} {v : Value} {x : DataW H × List MemPlace}
 (hT : Tryz.prog.underlying T = some (.slice E)) (h : DataW.trod enc Tryz.prog w base spare held fuel T [v] = some x) : ∃ a n c, v = .slice a n c := by
 rcases Go.Deep.open_slice hT h with ⟨hcs, _⟩ | ⟨p, l, c, m, n, D, Pl, hcs, _⟩
 . simp at hcs; exact ⟨_, _, _, hcs⟩
 . simp at hcs; exact ⟨_, _, _, hcs⟩
theorem strs_of {H : Type} {enc : TypeId × Value -> H} {w : World} {base : Nat} {spare : Nat -> Bool} {held : Bool} {fuel : Nat} {a : Option Addr} {len cap : Nat} {x : DataW H × List MemPlace}
 (h : DataW.trod enc Tryz.prog w base spare held fuel 24 [.slice a len cap] = some x) : ∃ l : List ByteArray, l.length = len /\ Strs w (fun _ => True) (.slice a len cap) l /\ (∀ o ∈ l, o.size <= maxLen) := by
 have c3 : Tryz.prog.cellsOf 9 = 1 := by kernel_rfl
 rcases Go.Deep.open_slice Tryz.underlying24 h with ⟨hcs, _⟩ | ⟨p, l, c, m, n, D, Pl, hcs, hb, hl, hm, hmm, hx, hi⟩
 . simp at hcs
   obtain ⟨rfl, rfl, rfl⟩ := hcs; exact ⟨[], rfl, Rec.nil _ _ _, (by intro o ho; exact absurd ho List.not_mem_nil)⟩
 . simp at hcs
   obtain ⟨rfl, rfl, rfl⟩ := hcs; have hlm : len <= m := by rw [hmm]; split <;> omega
   rw [c3] at hi
   have key : ∀ i, i < len -> ∃ o : ByteArray, (∀ j u, ([.string o] : List Value)[j]? = some u -> w.cell? (p.add (i * 1 + j)) = some u) /\ o.size <= maxLen := by
    intro i hil; obtain ⟨cs', hc, ht⟩ := hi i (by omega); obtain ⟨_, hcl, hat⟩ := World.cells?_some hc
    obtain ⟨v0, rfl⟩ : ∃ v0, cs' = [v0] := by
     match cs', hcl with
     | [v0], _ => exact ⟨v0, rfl⟩
    have e0 := hat 0 (by omega); rw [Go.Deep.add_add] at e0; obtain ⟨k0, hk0, -, hw0⟩ := DataW.trod_string Tryz.underlying9 ht; simp only [List.cons.injEq, and_true] at hk0; subst hk0; refine ⟨k0, fun j u hu => ?_, hw0⟩
    match j, hu with
    | 0, hu => cases hu; exact e0
    | j + 1, hu => simp at hu
   obtain ⟨l, hll, hp⟩ := build_list _ len key; refine ⟨l, hll, ⟨strL_k l, some p, cap, by rw [strL_len, hll], by rw [strL_len, hll]; exact hl, hm, ?_⟩, fun o ho => ?_⟩
   . by_cases hz : len = 0
     . left
       have : l = [] := List.eq_nil_of_length_eq_zero (by omega); subst this; rfl
     . right
       obtain ⟨bb, off, spot⟩ := p; have h0 := (hp 0 (by omega)).1 0 _ rfl
       have hn : spot = none := by
        cases spot with
        | none => rfl
        | some s =>
         exfalso
         simp only [Nat.zero_mul, Addr.add, World.cell?, if_true, Option.isSome_some] at h0
         split at h0 <;> cases h0
       subst hn; simp only [Addr.add_lit] at h0; refine ⟨bb, off, rfl, ?_, trivial, ?_⟩
       . unfold World.cell? at h0
         by_cases hlt : bb < w.heap.size
         . exact hlt
         . have : w.heap[bb]? = none := by simp; omega
           simp [this] at h0
       . intro i hi j u hu; have hi' : i < l.length := by rwa [strL_len] at hi
         have e : (strL l)[i] = [.string l[i]] := by simp [strL]
         rw [e] at hu; have := (hp i hi').1 j u hu; rw [Addr.add_lit, <- Nat.add_assoc] at this; exact this
   . obtain ⟨i, hil, rfl⟩ := List.getElem_of_mem ho; exact (hp i hil).2
theorem svs_of {H : Type} {enc : TypeId × Value -> H} {w : World} {base : Nat} {spare : Nat -> Bool} {held : Bool} {fuel : Nat} {a : Option Addr} {len cap : Nat} {x : DataW H × List MemPlace}
 (h : DataW.trod enc Tryz.prog w base spare held fuel 25 [.slice a len cap] = some x) : ∃ l : List Sv, l.length = len /\ Svs w (fun _ => True) (.slice a len cap) l /\ (∀ o ∈ l, I64 o.node /\ o.secret.size <= maxLen /\ o.realm.size <= maxLen) := by
 have cE : Tryz.prog.cellsOf 45 = 3 := by kernel_rfl
 have c3 : Tryz.prog.cellsOf 3 = 1 := by kernel_rfl
 have c9 : Tryz.prog.cellsOf 9 = 1 := by kernel_rfl
 rcases Go.Deep.open_slice Tryz.underlying25 h with ⟨hcs, _⟩ | ⟨p, l, c, m, n, D, Pl, hcs, hb, hl, hm, hmm, hx, hi⟩
 . simp at hcs
   obtain ⟨rfl, rfl, rfl⟩ := hcs; exact ⟨[], rfl, Rec.nil _ _ _, (by intro o ho; exact absurd ho List.not_mem_nil)⟩
 . simp at hcs
   obtain ⟨rfl, rfl, rfl⟩ := hcs; have hlm : len <= m := by rw [hmm]; split <;> omega
   rw [cE] at hi
   have key : ∀ i, i < len -> ∃ o : Sv, (∀ j u, ([.int .i64 o.node, .string o.secret, .string o.realm] : List Value)[j]? = some u -> w.cell? (p.add (i * 3 + j)) = some u) /\ I64 o.node /\ o.secret.size <= maxLen /\ o.realm.size <= maxLen := by
    intro i hil; obtain ⟨cs', hc, ht⟩ := hi i (by omega); obtain ⟨xs, n', _, _, hlen, hxl, hf⟩ := DataW.trod_struct Tryz.underlying45 ht; obtain ⟨_, hcl, hat⟩ := World.cells?_some hc; obtain ⟨v0, v1, v2, rfl⟩ := list3 hcl; have e0 := hat 0 (by omega); have e1 := hat 1 (by omega); have e2 := hat 2 (by omega); rw [Go.Deep.add_add] at e0 e1 e2; have f0 : DataW.trod enc Tryz.prog w base spare held n' 3 (([v0, v1, v2].drop 0).take (Tryz.prog.cellsOf 3)) = xs[0]? := hf 0 _ rfl; have f1 : DataW.trod enc Tryz.prog w base spare held n' 9 (([v0, v1, v2].drop 1).take (Tryz.prog.cellsOf 9)) = xs[1]? := hf 1 _ rfl; have f2 : DataW.trod enc Tryz.prog w base spare held n' 9 (([v0, v1, v2].drop 2).take (Tryz.prog.cellsOf 9)) = xs[2]? := hf 2 _ rfl; rw [c3] at f0; rw [c9] at f1 f2; have hs : xs.length = 3 := hxl; obtain ⟨y0, y1, y2, rfl⟩ := list3 hs; obtain ⟨k0, hk0, -, hw0⟩ := DataW.trod_int Tryz.underlying3 (x := y0) f0; obtain ⟨k1, hk1, -, hw1⟩ := DataW.trod_string Tryz.underlying9 (x := y1) f1; obtain ⟨k2, hk2, -, hw2⟩ := DataW.trod_string Tryz.underlying9 (x := y2) f2; simp only [List.drop_zero, List.drop_succ_cons, List.take_succ_cons, List.take_zero, List.cons.injEq, and_true] at hk0 hk1 hk2; subst hk0 hk1 hk2; refine ⟨⟨k0, k1, k2⟩, fun j u hu => ?_, hw0, hw1, hw2⟩
    match j, hu with
    | 0, hu => cases hu; exact e0
    | 1, hu => cases hu; exact e1
    | 2, hu => cases hu; exact e2
    | j + 3, hu => simp at hu
   obtain ⟨l, hll, hp⟩ := build_list _ len key; refine ⟨l, hll, ⟨svL_k l, some p, cap, by rw [svL_len, hll], by rw [svL_len, hll]; exact hl, hm, ?_⟩, fun o ho => ?_⟩
   . by_cases hz : len = 0
     . left
       have : l = [] := List.eq_nil_of_length_eq_zero (by omega); subst this; rfl
     . right
       obtain ⟨bb, off, spot⟩ := p; have h0 := (hp 0 (by omega)).1 0 _ rfl
       have hn : spot = none := by
        cases spot with
        | none => rfl
        | some s =>
         exfalso
         simp only [Nat.zero_mul, Addr.add, World.cell?, if_true, Option.isSome_some] at h0
         split at h0 <;> cases h0
       subst hn; simp only [Addr.add_lit] at h0; refine ⟨bb, off, rfl, ?_, trivial, ?_⟩
       . unfold World.cell? at h0
         by_cases hlt : bb < w.heap.size
         . exact hlt
         . have : w.heap[bb]? = none := by simp; omega
           simp [this] at h0
       . intro i hi j u hu; have hi' : i < l.length := by rwa [svL_len] at hi
         have e : (svL l)[i] = [.int .i64 l[i].node, .string l[i].secret, .string l[i].realm] := by simp [svL]
         rw [e] at hu; have := (hp i hi').1 j u hu; rw [Addr.add_lit, <- Nat.add_assoc] at this; exact this
   . obtain ⟨i, hi, rfl⟩ := List.getElem_of_mem ho; exact (hp i hi).2
theorem cfg26_listN6 {α : Type} {l : List α} (h : l.length = 6) : ∃ z0 z1 z2 z3 z4 z5, l = [z0, z1, z2, z3, z4, z5] := by
 match l, h with
 | [z0, z1, z2, z3, z4, z5], _ => exact ⟨z0, z1, z2, z3, z4, z5, rfl⟩
theorem cfg26_listN20 {α : Type} {l : List α} (h : l.length = 20) : ∃ z0 z1 z2 z3 z4 z5 z6 z7 z8 z9 z10 z11 z12 z13 z14 z15 z16 z17 z18 z19, l = [z0, z1, z2, z3, z4, z5, z6, z7, z8, z9, z10, z11, z12, z13, z14, z15, z16, z17, z18, z19] := by
 match l, h with
 | [z0, z1, z2, z3, z4, z5, z6, z7, z8, z9, z10, z11, z12, z13, z14, z15, z16, z17, z18, z19], _ => exact ⟨z0, z1, z2, z3, z4, z5, z6, z7, z8, z9, z10, z11, z12, z13, z14, z15, z16, z17, z18, z19, rfl⟩
theorem cfg26_listN25 {α : Type} {l : List α} (h : l.length = 25) : ∃ z0 z1 z2 z3 z4 z5 z6 z7 z8 z9 z10 z11 z12 z13 z14 z15 z16 z17 z18 z19 z20 z21 z22 z23 z24, l = [z0, z1, z2, z3, z4, z5, z6, z7, z8, z9, z10, z11, z12, z13, z14, z15, z16, z17, z18, z19, z20, z21, z22, z23, z24] := by
 match l, h with
 | [z0, z1, z2, z3, z4, z5, z6, z7, z8, z9, z10, z11, z12, z13, z14, z15, z16, z17, z18, z19, z20, z21, z22, z23, z24], _ => exact ⟨z0, z1, z2, z3, z4, z5, z6, z7, z8, z9, z10, z11, z12, z13, z14, z15, z16, z17, z18, z19, z20, z21, z22, z23, z24, rfl⟩
set_option maxRecDepth 100000 in
theorem cfg26_arg {H : Type} {enc : TypeId × Value -> H} {w : World} {base : Nat} {spare : Nat -> Bool} {held : Bool} {r : Reach} {b0 : Nat} {v : Value} {d : DataW H} {p : List MemPlace}
 (hv : Value.okWide Tryz.prog w r b0 27 v) (h : DataW.Trod enc Tryz.prog w base spare held 27 v d p) : ∃ (u59 : UInt8) (u64 : UInt8) (u69 : UInt8) (u74 : UInt8) (u79 : UInt8) (u84 : UInt8) (a85 : ByteArray) (a88 : ByteArray) (sa91 : Option Addr) (sn92 : Nat) (sc93 : Nat) (l94 : List ByteArray) (a98 : Int) (a101 : Int) (a104 : Int) (a107 : Int) (a110 : Int) (a113 : Int) (a116 : Int) (a119 : Int) (a122 : Int) (a125 : Int) (a128 : Int) (a131 : Int) (a134 : Int) (a137 : Int) (a140 : Bool) (sa143 : Option Addr) (sn144 : Nat) (sc145 : Nat) (l146 : List Sv), v = .agg #[.int .u8 (u59.toNat : Int), .int .u8 (u64.toNat : Int), .int .u8 (u69.toNat : Int), .int .u8 (u74.toNat : Int), .int .u8 (u79.toNat : Int), .int .u8 (u84.toNat : Int), .string a85, .string a88, .slice sa91 sn92 sc93, .int .i64 a98, .int .i64 a101, .int .i64 a104, .int .i64 a107, .int .i64 a110, .int .i64 a113, .int .i64 a116, .int .i64 a119, .int .i64 a122, .int .i64 a125, .int .i64 a128, .int .i64 a131, .int .i64 a134, .int .i64 a137, .bool a140, .slice sa143 sn144 sc145] /\ a85.size <= maxLen /\ a88.size <= maxLen /\ Strs w (fun _ => True) (.slice sa91 sn92 sc93) l94 /\ (∀ o ∈ l94, o.size <= maxLen) /\ (Lit.int .i64 a98).wf = true /\ (Lit.int .i64 a101).wf = true /\ (Lit.int .i64 a104).wf = true /\ (Lit.int .i64 a107).wf = true /\ (Lit.int .i64 a110).wf = true /\ (Lit.int .i64 a113).wf = true /\ (Lit.int .i64 a116).wf = true /\ (Lit.int .i64 a119).wf = true /\ (Lit.int .i64 a122).wf = true /\ (Lit.int .i64 a125).wf = true /\ (Lit.int .i64 a128).wf = true /\ (Lit.int .i64 a131).wf = true /\ (Lit.int .i64 a134).wf = true /\ (Lit.int .i64 a137).wf = true /\ Svs w (fun _ => True) (.slice sa143 sn144 sc145) l146 /\ (∀ o ∈ l146, I64 o.node /\ o.secret.size <= maxLen /\ o.realm.size <= maxLen) /\ ∃ ps, d = .agg ps /\ ps[1]? = some (.lit (.string a85.data.toList)) /\ ps[2]? = some (.lit (.string a88.data.toList)) := by
 have hs := Tryz.underlying27; obtain ⟨cs, rfl, hsz⟩ := okWide_struct hs hv; have hN : Tryz.prog.cellsOf 27 = 25 := by kernel_rfl
 obtain ⟨c0, c1, c2, c3, c4, c5, c6, c7, c8, c9, c10, c11, c12, c13, c14, c15, c16, c17, c18, c19, c20, c21, c22, c23, c24, rfl⟩ : ∃ c0 c1 c2 c3 c4 c5 c6 c7 c8 c9 c10 c11 c12 c13 c14 c15 c16 c17 c18 c19 c20 c21 c22 c23 c24, cs = #[c0, c1, c2, c3, c4, c5, c6, c7, c8, c9, c10, c11, c12, c13, c14, c15, c16, c17, c18, c19, c20, c21, c22, c23, c24] := by
  obtain ⟨l⟩ := cs; obtain ⟨c0, c1, c2, c3, c4, c5, c6, c7, c8, c9, c10, c11, c12, c13, c14, c15, c16, c17, c18, c19, c20, c21, c22, c23, c24, rfl⟩ := cfg26_listN25 (show l.length = 25 from hsz.trans hN); exact ⟨_, _, _, _, _, _, _, _, _, _, _, _, _, _, _, _, _, _, _, _, _, _, _, _, _, rfl⟩
 obtain ⟨fuel, hf⟩ := h; obtain ⟨xs2, m1, -, hx0, -, hl3, hf4⟩ := DataW.trod_struct Tryz.underlying27 hf; obtain ⟨y5, y6, y7, y8, y9, y10, y11, y12, y13, y14, y15, y16, y17, y18, y19, y20, y21, y22, y23, y24, rfl⟩ := cfg26_listN20 (show xs2.length = 20 from hl3)
 have e25 : DataW.trod enc Tryz.prog w base spare held m1 23 [c0, c1, c2, c3, c4, c5] = some y5 := by have : DataW.trod enc Tryz.prog w base spare held m1 23 ((([c0, c1, c2, c3, c4, c5, c6, c7, c8, c9, c10, c11, c12, c13, c14, c15, c16, c17, c18, c19, c20, c21, c22, c23, c24] : List Value).drop 0).take (Tryz.prog.cellsOf 23)) = some y5 := hf4 0 _ rfl; rw [show Tryz.prog.cellsOf 23 = 6 by kernel_rfl] at this; exact this
 have e26 : DataW.trod enc Tryz.prog w base spare held m1 9 [c6] = some y6 := by have : DataW.trod enc Tryz.prog w base spare held m1 9 ((([c0, c1, c2, c3, c4, c5, c6, c7, c8, c9, c10, c11, c12, c13, c14, c15, c16, c17, c18, c19, c20, c21, c22, c23, c24] : List Value).drop 6).take (Tryz.prog.cellsOf 9)) = some y6 := hf4 1 _ rfl; rw [show Tryz.prog.cellsOf 9 = 1 by kernel_rfl] at this; exact this
 have e27 : DataW.trod enc Tryz.prog w base spare held m1 9 [c7] = some y7 := by have : DataW.trod enc Tryz.prog w base spare held m1 9 ((([c0, c1, c2, c3, c4, c5, c6, c7, c8, c9, c10, c11, c12, c13, c14, c15, c16, c17, c18, c19, c20, c21, c22, c23, c24] : List Value).drop 7).take (Tryz.prog.cellsOf 9)) = some y7 := hf4 2 _ rfl; rw [show Tryz.prog.cellsOf 9 = 1 by kernel_rfl] at this; exact this
 have e28 : DataW.trod enc Tryz.prog w base spare held m1 24 [c8] = some y8 := by have : DataW.trod enc Tryz.prog w base spare held m1 24 ((([c0, c1, c2, c3, c4, c5, c6, c7, c8, c9, c10, c11, c12, c13, c14, c15, c16, c17, c18, c19, c20, c21, c22, c23, c24] : List Value).drop 8).take (Tryz.prog.cellsOf 24)) = some y8 := hf4 3 _ rfl; rw [show Tryz.prog.cellsOf 24 = 1 by kernel_rfl] at this; exact this
 have e29 : DataW.trod enc Tryz.prog w base spare held m1 3 [c9] = some y9 := by have : DataW.trod enc Tryz.prog w base spare held m1 3 ((([c0, c1, c2, c3, c4, c5, c6, c7, c8, c9, c10, c11, c12, c13, c14, c15, c16, c17, c18, c19, c20, c21, c22, c23, c24] : List Value).drop 9).take (Tryz.prog.cellsOf 3)) = some y9 := hf4 4 _ rfl; rw [show Tryz.prog.cellsOf 3 = 1 by kernel_rfl] at this; exact this
 have e30 : DataW.trod enc Tryz.prog w base spare held m1 3 [c10] = some y10 := by have : DataW.trod enc Tryz.prog w base spare held m1 3 ((([c0, c1, c2, c3, c4, c5, c6, c7, c8, c9, c10, c11, c12, c13, c14, c15, c16, c17, c18, c19, c20, c21, c22, c23, c24] : List Value).drop 10).take (Tryz.prog.cellsOf 3)) = some y10 := hf4 5 _ rfl; rw [show Tryz.prog.cellsOf 3 = 1 by kernel_rfl] at this; exact this
 have e31 : DataW.trod enc Tryz.prog w base spare held m1 3 [c11] = some y11 := by have : DataW.trod enc Tryz.prog w base spare held m1 3 ((([c0, c1, c2, c3, c4, c5, c6, c7, c8, c9, c10, c11, c12, c13, c14, c15, c16, c17, c18, c19, c20, c21, c22, c23, c24] : List Value).drop 11).take (Tryz.prog.cellsOf 3)) = some y11 := hf4 6 _ rfl; rw [show Tryz.prog.cellsOf 3 = 1 by kernel_rfl] at this; exact this
 have e32 : DataW.trod enc Tryz.prog w base spare held m1 3 [c12] = some y12 := by have : DataW.trod enc Tryz.prog w base spare held m1 3 ((([c0, c1, c2, c3, c4, c5, c6, c7, c8, c9, c10, c11, c12, c13, c14, c15, c16, c17, c18, c19, c20, c21, c22, c23, c24] : List Value).drop 12).take (Tryz.prog.cellsOf 3)) = some y12 := hf4 7 _ rfl; rw [show Tryz.prog.cellsOf 3 = 1 by kernel_rfl] at this; exact this
 have e33 : DataW.trod enc Tryz.prog w base spare held m1 3 [c13] = some y13 := by have : DataW.trod enc Tryz.prog w base spare held m1 3 ((([c0, c1, c2, c3, c4, c5, c6, c7, c8, c9, c10, c11, c12, c13, c14, c15, c16, c17, c18, c19, c20, c21, c22, c23, c24] : List Value).drop 13).take (Tryz.prog.cellsOf 3)) = some y13 := hf4 8 _ rfl; rw [show Tryz.prog.cellsOf 3 = 1 by kernel_rfl] at this; exact this
 have e34 : DataW.trod enc Tryz.prog w base spare held m1 3 [c14] = some y14 := by have : DataW.trod enc Tryz.prog w base spare held m1 3 ((([c0, c1, c2, c3, c4, c5, c6, c7, c8, c9, c10, c11, c12, c13, c14, c15, c16, c17, c18, c19, c20, c21, c22, c23, c24] : List Value).drop 14).take (Tryz.prog.cellsOf 3)) = some y14 := hf4 9 _ rfl; rw [show Tryz.prog.cellsOf 3 = 1 by kernel_rfl] at this; exact this
 have e35 : DataW.trod enc Tryz.prog w base spare held m1 3 [c15] = some y15 := by have : DataW.trod enc Tryz.prog w base spare held m1 3 ((([c0, c1, c2, c3, c4, c5, c6, c7, c8, c9, c10, c11, c12, c13, c14, c15, c16, c17, c18, c19, c20, c21, c22, c23, c24] : List Value).drop 15).take (Tryz.prog.cellsOf 3)) = some y15 := hf4 10 _ rfl; rw [show Tryz.prog.cellsOf 3 = 1 by kernel_rfl] at this; exact this
 have e36 : DataW.trod enc Tryz.prog w base spare held m1 3 [c16] = some y16 := by have : DataW.trod enc Tryz.prog w base spare held m1 3 ((([c0, c1, c2, c3, c4, c5, c6, c7, c8, c9, c10, c11, c12, c13, c14, c15, c16, c17, c18, c19, c20, c21, c22, c23, c24] : List Value).drop 16).take (Tryz.prog.cellsOf 3)) = some y16 := hf4 11 _ rfl; rw [show Tryz.prog.cellsOf 3 = 1 by kernel_rfl] at this; exact this
 have e37 : DataW.trod enc Tryz.prog w base spare held m1 3 [c17] = some y17 := by have : DataW.trod enc Tryz.prog w base spare held m1 3 ((([c0, c1, c2, c3, c4, c5, c6, c7, c8, c9, c10, c11, c12, c13, c14, c15, c16, c17, c18, c19, c20, c21, c22, c23, c24] : List Value).drop 17).take (Tryz.prog.cellsOf 3)) = some y17 := hf4 12 _ rfl; rw [show Tryz.prog.cellsOf 3 = 1 by kernel_rfl] at this; exact this
 have e38 : DataW.trod enc Tryz.prog w base spare held m1 3 [c18] = some y18 := by have : DataW.trod enc Tryz.prog w base spare held m1 3 ((([c0, c1, c2, c3, c4, c5, c6, c7, c8, c9, c10, c11, c12, c13, c14, c15, c16, c17, c18, c19, c20, c21, c22, c23, c24] : List Value).drop 18).take (Tryz.prog.cellsOf 3)) = some y18 := hf4 13 _ rfl; rw [show Tryz.prog.cellsOf 3 = 1 by kernel_rfl] at this; exact this
 have e39 : DataW.trod enc Tryz.prog w base spare held m1 3 [c19] = some y19 := by have : DataW.trod enc Tryz.prog w base spare held m1 3 ((([c0, c1, c2, c3, c4, c5, c6, c7, c8, c9, c10, c11, c12, c13, c14, c15, c16, c17, c18, c19, c20, c21, c22, c23, c24] : List Value).drop 19).take (Tryz.prog.cellsOf 3)) = some y19 := hf4 14 _ rfl; rw [show Tryz.prog.cellsOf 3 = 1 by kernel_rfl] at this; exact this
 have e40 : DataW.trod enc Tryz.prog w base spare held m1 3 [c20] = some y20 := by have : DataW.trod enc Tryz.prog w base spare held m1 3 ((([c0, c1, c2, c3, c4, c5, c6, c7, c8, c9, c10, c11, c12, c13, c14, c15, c16, c17, c18, c19, c20, c21, c22, c23, c24] : List Value).drop 20).take (Tryz.prog.cellsOf 3)) = some y20 := hf4 15 _ rfl; rw [show Tryz.prog.cellsOf 3 = 1 by kernel_rfl] at this; exact this
 have e41 : DataW.trod enc Tryz.prog w base spare held m1 3 [c21] = some y21 := by have : DataW.trod enc Tryz.prog w base spare held m1 3 ((([c0, c1, c2, c3, c4, c5, c6, c7, c8, c9, c10, c11, c12, c13, c14, c15, c16, c17, c18, c19, c20, c21, c22, c23, c24] : List Value).drop 21).take (Tryz.prog.cellsOf 3)) = some y21 := hf4 16 _ rfl; rw [show Tryz.prog.cellsOf 3 = 1 by kernel_rfl] at this; exact this
 have e42 : DataW.trod enc Tryz.prog w base spare held m1 3 [c22] = some y22 := by have : DataW.trod enc Tryz.prog w base spare held m1 3 ((([c0, c1, c2, c3, c4, c5, c6, c7, c8, c9, c10, c11, c12, c13, c14, c15, c16, c17, c18, c19, c20, c21, c22, c23, c24] : List Value).drop 22).take (Tryz.prog.cellsOf 3)) = some y22 := hf4 17 _ rfl; rw [show Tryz.prog.cellsOf 3 = 1 by kernel_rfl] at this; exact this
 have e43 : DataW.trod enc Tryz.prog w base spare held m1 4 [c23] = some y23 := by have : DataW.trod enc Tryz.prog w base spare held m1 4 ((([c0, c1, c2, c3, c4, c5, c6, c7, c8, c9, c10, c11, c12, c13, c14, c15, c16, c17, c18, c19, c20, c21, c22, c23, c24] : List Value).drop 23).take (Tryz.prog.cellsOf 4)) = some y23 := hf4 18 _ rfl; rw [show Tryz.prog.cellsOf 4 = 1 by kernel_rfl] at this; exact this
 have e44 : DataW.trod enc Tryz.prog w base spare held m1 25 [c24] = some y24 := by have : DataW.trod enc Tryz.prog w base spare held m1 25 ((([c0, c1, c2, c3, c4, c5, c6, c7, c8, c9, c10, c11, c12, c13, c14, c15, c16, c17, c18, c19, c20, c21, c22, c23, c24] : List Value).drop 24).take (Tryz.prog.cellsOf 25)) = some y24 := hf4 19 _ rfl; rw [show Tryz.prog.cellsOf 25 = 1 by kernel_rfl] at this; exact this
 obtain ⟨xs46, m45, _, _, _, hl47, hat48⟩ := DataW.trod_array Tryz.underlying23 e25; obtain ⟨y49, y50, y51, y52, y53, y54, rfl⟩ := cfg26_listN6 hl47; have e55 : DataW.trod enc Tryz.prog w base spare held m45 5 [c0] = some y49 := by have := hat48 0 (by omega); rw [show Tryz.prog.cellsOf 5 = 1 by kernel_rfl] at this; simpa using this
 obtain ⟨a56, k57, -, q58⟩ := DataW.trod_int (x := y49) Tryz.underlying5 e55; simp only [List.cons.injEq, and_true] at k57; subst k57; obtain ⟨u59, rfl⟩ := u8_of _ q58; have e60 : DataW.trod enc Tryz.prog w base spare held m45 5 [c1] = some y50 := by have := hat48 1 (by omega); rw [show Tryz.prog.cellsOf 5 = 1 by kernel_rfl] at this; simpa using this
 obtain ⟨a61, k62, -, q63⟩ := DataW.trod_int (x := y50) Tryz.underlying5 e60; simp only [List.cons.injEq, and_true] at k62; subst k62; obtain ⟨u64, rfl⟩ := u8_of _ q63; have e65 : DataW.trod enc Tryz.prog w base spare held m45 5 [c2] = some y51 := by have := hat48 2 (by omega); rw [show Tryz.prog.cellsOf 5 = 1 by kernel_rfl] at this; simpa using this
 obtain ⟨a66, k67, -, q68⟩ := DataW.trod_int (x := y51) Tryz.underlying5 e65; simp only [List.cons.injEq, and_true] at k67; subst k67; obtain ⟨u69, rfl⟩ := u8_of _ q68; have e70 : DataW.trod enc Tryz.prog w base spare held m45 5 [c3] = some y52 := by have := hat48 3 (by omega); rw [show Tryz.prog.cellsOf 5 = 1 by kernel_rfl] at this; simpa using this
 obtain ⟨a71, k72, -, q73⟩ := DataW.trod_int (x := y52) Tryz.underlying5 e70; simp only [List.cons.injEq, and_true] at k72; subst k72; obtain ⟨u74, rfl⟩ := u8_of _ q73; have e75 : DataW.trod enc Tryz.prog w base spare held m45 5 [c4] = some y53 := by have := hat48 4 (by omega); rw [show Tryz.prog.cellsOf 5 = 1 by kernel_rfl] at this; simpa using this
 obtain ⟨a76, k77, -, q78⟩ := DataW.trod_int (x := y53) Tryz.underlying5 e75; simp only [List.cons.injEq, and_true] at k77; subst k77; obtain ⟨u79, rfl⟩ := u8_of _ q78; have e80 : DataW.trod enc Tryz.prog w base spare held m45 5 [c5] = some y54 := by have := hat48 5 (by omega); rw [show Tryz.prog.cellsOf 5 = 1 by kernel_rfl] at this; simpa using this
 obtain ⟨a81, k82, -, q83⟩ := DataW.trod_int (x := y54) Tryz.underlying5 e80; simp only [List.cons.injEq, and_true] at k82; subst k82; obtain ⟨u84, rfl⟩ := u8_of _ q83; obtain ⟨a85, k86, za85, q87⟩ := DataW.trod_string (x := y6) Tryz.underlying9 e26; simp only [List.cons.injEq, and_true] at k86; subst k86; obtain ⟨a88, k89, za88, q90⟩ := DataW.trod_string (x := y7) Tryz.underlying9 e27; simp only [List.cons.injEq, and_true] at k89; subst k89; obtain ⟨sa91, sn92, sc93, rfl⟩ := slice_formL Tryz.underlying24 e28; obtain ⟨l94, hl95, hS96, hM97⟩ := strs_of e28; obtain ⟨a98, k99, -, q100⟩ := DataW.trod_int (x := y9) Tryz.underlying3 e29; simp only [List.cons.injEq, and_true] at k99; subst k99; obtain ⟨a101, k102, -, q103⟩ := DataW.trod_int (x := y10) Tryz.underlying3 e30; simp only [List.cons.injEq, and_true] at k102; subst k102; obtain ⟨a104, k105, -, q106⟩ := DataW.trod_int (x := y11) Tryz.underlying3 e31; simp only [List.cons.injEq, and_true] at k105; subst k105; obtain ⟨a107, k108, -, q109⟩ := DataW.trod_int (x := y12) Tryz.underlying3 e32; simp only [List.cons.injEq, and_true] at k108; subst k108; obtain ⟨a110, k111, -, q112⟩ := DataW.trod_int (x := y13) Tryz.underlying3 e33; simp only [List.cons.injEq, and_true] at k111; subst k111; obtain ⟨a113, k114, -, q115⟩ := DataW.trod_int (x := y14) Tryz.underlying3 e34; simp only [List.cons.injEq, and_true] at k114; subst k114; obtain ⟨a116, k117, -, q118⟩ := DataW.trod_int (x := y15) Tryz.underlying3 e35; simp only [List.cons.injEq, and_true] at k117; subst k117; obtain ⟨a119, k120, -, q121⟩ := DataW.trod_int (x := y16) Tryz.underlying3 e36; simp only [List.cons.injEq, and_true] at k120; subst k120; obtain ⟨a122, k123, -, q124⟩ := DataW.trod_int (x := y17) Tryz.underlying3 e37; simp only [List.cons.injEq, and_true] at k123; subst k123; obtain ⟨a125, k126, -, q127⟩ := DataW.trod_int (x := y18) Tryz.underlying3 e38; simp only [List.cons.injEq, and_true] at k126; subst k126; obtain ⟨a128, k129, -, q130⟩ := DataW.trod_int (x := y19) Tryz.underlying3 e39; simp only [List.cons.injEq, and_true] at k129; subst k129; obtain ⟨a131, k132, -, q133⟩ := DataW.trod_int (x := y20) Tryz.underlying3 e40; simp only [List.cons.injEq, and_true] at k132; subst k132; obtain ⟨a134, k135, -, q136⟩ := DataW.trod_int (x := y21) Tryz.underlying3 e41; simp only [List.cons.injEq, and_true] at k135; subst k135; obtain ⟨a137, k138, -, q139⟩ := DataW.trod_int (x := y22) Tryz.underlying3 e42; simp only [List.cons.injEq, and_true] at k138; subst k138; obtain ⟨a140, k141, -⟩ := DataW.trod_bool (x := y23) Tryz.underlying4 e43; simp only [List.cons.injEq, and_true] at k141; subst k141; obtain ⟨sa143, sn144, sc145, rfl⟩ := slice_formL Tryz.underlying25 e44; obtain ⟨l146, hl147, hS148, hM149⟩ := svs_of e44; exact ⟨u59, u64, u69, u74, u79, u84, a85, a88, sa91, sn92, sc93, l94, a98, a101, a104, a107, a110, a113, a116, a119, a122, a125, a128, a131, a134, a137, a140, sa143, sn144, sc145, l146, rfl, q87, q90, hS96, hM97, q100, q103, q106, q109, q112, q115, q118, q121, q124, q127, q130, q133, q136, q139, hS148, hM149, _, congrArg Prod.fst hx0, (by show some y6.1 = _; rw [za85]), (by show some y7.1 = _; rw [za88])⟩
set_option maxRecDepth 100000 in
theorem cfg26_sized {H : Type} {ps : List (DataW H)} {d1 : DataW H} {ts : List TypeId} {nm ck : ByteArray} (h : (DataW.weightsEach Tryz.prog (27 :: ts) [.agg ps, d1]).all (· <= reachBytes) = true)
 (h1 : ps[1]? = some (.lit (.string nm.data.toList))) (h2 : ps[2]? = some (.lit (.string ck.data.toList))) : nm.size <= 140737488351232 /\ ck.size <= 140737488351232 := by
 have hw : ∀ n ∈ (DataW.agg ps : DataW H).weights Tryz.prog 27, n <= 140737488351232 := fun n hn => by
  have := List.all_eq_true.1 h n (DataW.weights_mem_each (j := 0) (t := 27) rfl rfl n hn); exact of_decide_eq_true this
 obtain ⟨fs, hfs, e1, e2⟩ : ∃ fs, Tryz.prog.underlying 27 = some (.struct fs) /\ (fs.toList.map (·.type))[1]? = some 9 /\ (fs.toList.map (·.type))[2]? = some 9 := ⟨_, Tryz.underlying27, rfl, rfl⟩; have hm : (DataW.agg ps : DataW H).weights Tryz.prog 27 = DataW.weightsEach Tryz.prog (fs.toList.map (·.type)) ps := by unfold DataW.weights; rw [hfs]
 rw [hm] at hw; have a1 := hw nm.data.toList.length (DataW.weights_mem_each e1 h1 _ (by simp [DataW.weights])); have a2 := hw ck.data.toList.length (DataW.weights_mem_each e2 h2 _ (by simp [DataW.weights])); rw [Array.length_toList] at a1 a2; exact ⟨a1, a2⟩
set_option maxRecDepth 100000 in
theorem cfg26_c {H : Type} {enc : TypeId × Value -> H} {w : World} {base : Nat} {spare : Nat -> Bool} {held : Bool} {r : Reach} {b0 : Nat} {v : Value} {d d1 : DataW H} {p : List MemPlace} {ts : List TypeId}
 (hv : Value.okWide Tryz.prog w r b0 27 v) (h : DataW.Trod enc Tryz.prog w base spare held 27 v d p) (hz : (DataW.weightsEach Tryz.prog (27 :: ts) [d, d1]).all (· <= reachBytes) = true) :
 ∃ (c : LaC) (ls : List ByteArray) (l : List Sv), v = .agg c.cells /\ Strs w (fun _ => True) (.slice c.sva c.svl c.svc) ls /\ Svs w (fun _ => True) (.slice c.srva c.srvl c.srvc) l /\ (∀ o ∈ l, I64 o.node /\ o.secret.size <= maxLen /\ o.realm.size <= maxLen) /\ I64 c.auth /\ I64 c.node /\ c.name.size <= 140737488351232 /\ c.cookie.size <= 140737488351232 := by
 obtain ⟨u59, u64, u69, u74, u79, u84, a85, a88, sa91, sn92, sc93, l94, a98, a101, a104, a107, a110, a113, a116, a119, a122, a125, a128, a131, a134, a137, a140, sa143, sn144, sc145, l146, rfl, -, -, hA, -, -, qa101, qa104, -, -, -, -, -, -, -, -, -, -, -, hB, hC, ps, rfl, p1, p2⟩ := cfg26_arg hv h; obtain ⟨z1, z2⟩ := cfg26_sized hz p1 p2; exact ⟨⟨u59, u64, u69, u74, u79, u84, a85, a88, sa91, sn92, sc93, a98, a101, a104, a107, a110, a113, a116, a119, a122, a125, a128, a131, a134, a137, a140, sa143, sn144, sc145⟩, l94, l146, rfl, hA, hB, hC, qa104, qa101, z1, z2⟩
end Go.Proofs.YtoblffnlopmebaaGreat
namespace Go.Proofs.YtoblffnlopmebaaGreat
open Go.RowKit Go.Tg Go.Maps
end Go.Proofs.YtoblffnlopmebaaGreat
