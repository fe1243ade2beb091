import Derived.Test.YtignponfoheaeaaGreatRAW
import Derived.Test.YtignponfoheaeaaGreatRAY
set_option linter.unusedVariables false
set_option linter.unusedSimpArgs false
set_option maxHeartbeats 16000000
namespace Go.Proofs.YtignponfoheaeaaGreat
open Go.RowKit Go.Tg Go.Maps
structure OpM where
 k : Int
 n : Int
 p : Pk
 a : List Opt
 b : List Opt
abbrev OpV := OpM × Value × Value × Value
def opCells (x : OpV) : List Value := [.int .i64 x.1.k, .int .i64 x.1.n, .int .i64 x.1.p.code, .int .i64 x.1.p.id, x.2.1, .string x.1.p.d, x.2.2.1, x.2.2.2]
structure OpIn (w : World) (ok : Nat -> Prop) (x : OpV) : Prop where
 p : Opts w ok x.2.1 x.1.p.o
 a : Opts w ok x.2.2.1 x.1.a
 b : Opts w ok x.2.2.2 x.1.b
 wf : (∀ o ∈ x.1.p.o, I64 o.t /\ o.v.size <= maxLen) /\ x.1.p.d.size <= maxLen /\ (∀ o ∈ x.1.a, o.v.size <= maxLen) /\ (∀ o ∈ x.1.b, o.v.size <= maxLen)
 nil : (∀ n c, x.2.1 = .slice none n c -> c = 0) /\ (∀ n c, x.2.2.1 = .slice none n c -> c = 0) /\ (∀ n c, x.2.2.2 = .slice none n c -> c = 0)
structure OpsAt (w : World) (ok : Nat -> Prop) (v : Value) (L : List OpV) : Prop where
 row : Rec 8 w ok v (L.map opCells)
 each : ∀ x ∈ L, OpIn w ok x
theorem list8 {α : Type} {l : List α} (h : l.length = 8) : ∃ a b c d e f g i, l = [a, b, c, d, e, f, g, i] := by
 match l, h with
 | [a, b, c, d, e, f, g, i], _ => exact ⟨a, b, c, d, e, f, g, i, rfl⟩
theorem ops_of {H : Type} {enc : TypeId × Value -> H} {w : World} {base : Nat} {spare : Nat -> Bool} {held : Bool} {fuel : Nat} {a : Option Addr} {len cap : Nat} {x : DataW H × List MemPlace}
 (h : DataW.trod enc Tryz.prog w base spare held fuel 78 [.slice a len cap] = some x) : ∃ L : List OpV, L.length = len /\ OpsAt w (fun _ => True) (.slice a len cap) L := by
 have cE : Tryz.prog.cellsOf 95 = 8 := by kernel_rfl
 have cP : Tryz.prog.cellsOf 93 = 4 := by kernel_rfl
 have c3 : Tryz.prog.cellsOf 3 = 1 := by kernel_rfl
 have c9 : Tryz.prog.cellsOf 9 = 1 := by kernel_rfl
 have cO : Tryz.prog.cellsOf 62 = 1 := by kernel_rfl
 rcases Go.Deep.open_slice Tryz.underlying78 h with ⟨hcs, _⟩ | ⟨p, l, c, m, n, D, Pl, hcs, hb, hl, hm, hmm, hx, hi⟩
 . simp at hcs
   obtain ⟨rfl, rfl, rfl⟩ := hcs; exact ⟨[], rfl, Rec.nil _ _ _, fun x hx => absurd hx List.not_mem_nil⟩
 . simp at hcs
   obtain ⟨rfl, rfl, rfl⟩ := hcs; have hlm : len <= m := by rw [hmm]; split <;> omega
   rw [cE] at hi
   have key : ∀ i, i < len -> ∃ o : OpV, (∀ j u, (opCells o)[j]? = some u -> w.cell? (p.add (i * 8 + j)) = some u) /\ OpIn w (fun _ => True) o := by
    intro i hil; obtain ⟨cs', hc, ht⟩ := hi i (by omega); obtain ⟨xs, n', _, _, hlen, hxl, hf⟩ := DataW.trod_struct Tryz.underlying95 ht; obtain ⟨_, hcl, hat⟩ := World.cells?_some hc; obtain ⟨v0, v1, v2, v3, v4, v5, v6, v7, rfl⟩ := list8 hcl; have e0 := hat 0 (by omega); have e1 := hat 1 (by omega); have e2 := hat 2 (by omega); have e3 := hat 3 (by omega); have e4 := hat 4 (by omega); have e5 := hat 5 (by omega); have e6 := hat 6 (by omega); have e7 := hat 7 (by omega); rw [Go.Deep.add_add] at e0 e1 e2 e3 e4 e5 e6 e7; have f0 : DataW.trod enc Tryz.prog w base spare held n' 3 (([v0, v1, v2, v3, v4, v5, v6, v7].drop 0).take (Tryz.prog.cellsOf 3)) = xs[0]? := hf 0 _ rfl; have f1 : DataW.trod enc Tryz.prog w base spare held n' 3 (([v0, v1, v2, v3, v4, v5, v6, v7].drop 1).take (Tryz.prog.cellsOf 3)) = xs[1]? := hf 1 _ rfl; have f2 : DataW.trod enc Tryz.prog w base spare held n' 93 (([v0, v1, v2, v3, v4, v5, v6, v7].drop 2).take (Tryz.prog.cellsOf 93)) = xs[2]? := hf 2 _ rfl; have f3 : DataW.trod enc Tryz.prog w base spare held n' 62 (([v0, v1, v2, v3, v4, v5, v6, v7].drop 6).take (Tryz.prog.cellsOf 62)) = xs[3]? := hf 3 _ rfl; have f4 : DataW.trod enc Tryz.prog w base spare held n' 62 (([v0, v1, v2, v3, v4, v5, v6, v7].drop 7).take (Tryz.prog.cellsOf 62)) = xs[4]? := hf 4 _ rfl; rw [c3] at f0 f1; rw [cP] at f2; rw [cO] at f3 f4; have hs : xs.length = 5 := hxl; obtain ⟨y0, y1, y2, y3, y4, rfl⟩ := list5 hs; obtain ⟨k0, hk0, -, hw0⟩ := DataW.trod_int Tryz.underlying3 (x := y0) f0; obtain ⟨k1, hk1, -, hw1⟩ := DataW.trod_int Tryz.underlying3 (x := y1) f1; simp only [List.drop_zero, List.drop_succ_cons, List.take_succ_cons, List.take_zero, List.cons.injEq, and_true] at hk0 hk1; subst hk0 hk1; simp only [List.drop_zero, List.drop_succ_cons, List.take_succ_cons, List.take_zero, List.getElem?_cons_succ, List.getElem?_cons_zero] at f2 f3 f4; obtain ⟨zs, n2, _, _, zlen, zxl, zf⟩ := DataW.trod_struct Tryz.underlying93 f2; have g0 : DataW.trod enc Tryz.prog w base spare held n2 3 (([v2, v3, v4, v5].drop 0).take (Tryz.prog.cellsOf 3)) = zs[0]? := zf 0 _ rfl; have g1 : DataW.trod enc Tryz.prog w base spare held n2 3 (([v2, v3, v4, v5].drop 1).take (Tryz.prog.cellsOf 3)) = zs[1]? := zf 1 _ rfl; have g2 : DataW.trod enc Tryz.prog w base spare held n2 62 (([v2, v3, v4, v5].drop 2).take (Tryz.prog.cellsOf 62)) = zs[2]? := zf 2 _ rfl; have g3 : DataW.trod enc Tryz.prog w base spare held n2 9 (([v2, v3, v4, v5].drop 3).take (Tryz.prog.cellsOf 9)) = zs[3]? := zf 3 _ rfl; rw [c3] at g0 g1; rw [cO] at g2; rw [c9] at g3; have hzs : zs.length = 4 := zxl; obtain ⟨z0, z1, z2, z3, rfl⟩ := list4 hzs; obtain ⟨k2, hk2, -, -⟩ := DataW.trod_int Tryz.underlying3 (x := z0) g0; obtain ⟨k3, hk3, -, -⟩ := DataW.trod_int Tryz.underlying3 (x := z1) g1; obtain ⟨k5, hk5, -, hw5⟩ := DataW.trod_string Tryz.underlying9 (x := z3) g3; simp only [List.drop_zero, List.drop_succ_cons, List.take_succ_cons, List.take_zero, List.cons.injEq, and_true] at hk2 hk3 hk5; subst hk2 hk3 hk5; simp only [List.drop_zero, List.drop_succ_cons, List.take_succ_cons, List.take_zero, List.getElem?_cons_succ, List.getElem?_cons_zero] at g2
    obtain ⟨a2, l2, c2, rfl⟩ : ∃ a l c, v4 = .slice a l c := by
     rcases Go.Deep.open_slice Tryz.underlying62 g2 with ⟨h, _⟩ | ⟨p, l, c, _, _, _, _, h, _⟩ <;> simp at h <;> exact ⟨_, _, _, h⟩
    obtain ⟨a3, l3, c3', rfl⟩ : ∃ a l c, v6 = .slice a l c := by
     rcases Go.Deep.open_slice Tryz.underlying62 f3 with ⟨h, _⟩ | ⟨p, l, c, _, _, _, _, h, _⟩ <;> simp at h <;> exact ⟨_, _, _, h⟩
    obtain ⟨a4, l4, c4, rfl⟩ : ∃ a l c, v7 = .slice a l c := by
     rcases Go.Deep.open_slice Tryz.underlying62 f4 with ⟨h, _⟩ | ⟨p, l, c, _, _, _, _, h, _⟩ <;> simp at h <;> exact ⟨_, _, _, h⟩
    obtain ⟨op, -, ho2, ho3, ho4⟩ := opts_of g2; obtain ⟨oa, -, ha2, ha3, ha4⟩ := opts_of f3; obtain ⟨ob, -, hb2, hb3, hb4⟩ := opts_of f4; refine ⟨(⟨k0, k1, ⟨k2, k3, op, k5⟩, oa, ob⟩, .slice a2 l2 c2, .slice a3 l3 c3', .slice a4 l4 c4), fun j u hu => ?_, ⟨ho2, ha2, hb2, ⟨ho3, hw5, fun o ho => (ha3 o ho).2, fun o ho => (hb3 o ho).2⟩, fun _ _ e => (by cases e; exact ho4 rfl), fun _ _ e => (by cases e; exact ha4 rfl), fun _ _ e => (by cases e; exact hb4 rfl)⟩⟩
    match j, hu with
    | 0, hu => cases hu; exact e0
    | 1, hu => cases hu; exact e1
    | 2, hu => cases hu; exact e2
    | 3, hu => cases hu; exact e3
    | 4, hu => cases hu; exact e4
    | 5, hu => cases hu; exact e5
    | 6, hu => cases hu; exact e6
    | 7, hu => cases hu; exact e7
    | j + 8, hu => simp [opCells] at hu
   obtain ⟨L, hll, hp⟩ := build_list _ len key; have hml : (L.map opCells).length = len := by rw [List.length_map, hll]
   refine ⟨L, hll, ⟨fun y hy => ?_, some p, cap, by rw [hml], by rw [hml]; exact hl, hm, ?_⟩, fun o ho => ?_⟩
   . simp only [List.mem_map] at hy; obtain ⟨o, _, rfl⟩ := hy; rfl
   . by_cases hz : len = 0
     . left
       have : L = [] := List.eq_nil_of_length_eq_zero (by omega); subst this; rfl
     . right
       obtain ⟨bb, off, spot⟩ := p; have h0 := (hp 0 (by omega)).1 0 _ rfl
       have hn : spot = none := by
        cases spot with
        | none => rfl
        | some s =>
         exfalso
         simp only [Nat.zero_mul, Addr.add, World.cell?, if_true, Option.isSome_some] at h0
         split at h0 <;> cases h0
       subst hn; simp only [Addr.add_lit] at h0; refine ⟨bb, off, rfl, ?_, trivial, ?_⟩
       . unfold World.cell? at h0
         by_cases hlt : bb < w.heap.size
         . exact hlt
         . have : w.heap[bb]? = none := by simp; omega
           simp [this] at h0
       . intro i hi j u hu; have hi' : i < L.length := by rw [hml] at hi; omega
         have e : (L.map opCells)[i] = opCells L[i] := by simp
         rw [e] at hu; have := (hp i hi').1 j u hu; rw [Addr.add_lit, <- Nat.add_assoc] at this; exact this
   . obtain ⟨i, hi, rfl⟩ := List.getElem_of_mem ho; exact (hp i hi).2
def SmO (x : OpM) : Prop := (x.p.o.length <= 50 /\ ∀ o ∈ x.p.o, o.v.size <= 400) /\ x.p.d.size <= 2000 /\ (x.a.length <= 50 /\ ∀ o ∈ x.a, o.v.size <= 400) /\ (x.b.length <= 50 /\ ∀ o ∈ x.b, o.v.size <= 400)
theorem OpsAt.at {w : World} {ok : Nat -> Prop} {sa : Option Addr} {n c : Nat} {L : List OpV} (h : OpsAt w ok (.slice sa n c) L) (i : Nat) (hi : i < L.length) :
 ∃ b off, sa = some ⟨b, off, none⟩ /\ b < w.heap.size /\ ok b /\ w.cell? ⟨b, off + i * 8, none⟩ = some (.int .i64 L[i].1.k) /\ w.cell? ⟨b, off + i * 8 + 1, none⟩ = some (.int .i64 L[i].1.n) /\ w.cell? ⟨b, off + i * 8 + 2, none⟩ = some (.int .i64 L[i].1.p.code) /\ w.cell? ⟨b, off + i * 8 + 3, none⟩ = some (.int .i64 L[i].1.p.id) /\
  w.cell? ⟨b, off + i * 8 + 4, none⟩ = some L[i].2.1 /\ w.cell? ⟨b, off + i * 8 + 5, none⟩ = some (.string L[i].1.p.d) /\ w.cell? ⟨b, off + i * 8 + 6, none⟩ = some L[i].2.2.1 /\ w.cell? ⟨b, off + i * 8 + 7, none⟩ = some L[i].2.2.2 := by
 obtain ⟨b, off, h1, h2, h3, h4, h5, h6, h7⟩ := Rec.at h.row i (by rw [List.length_map]; exact hi); have e : (L.map opCells)[i]'(by rw [List.length_map]; exact hi) = opCells L[i] := by simp
 have g := fun j u (hu : (opCells L[i])[j]? = some u) => h7 j u (by rw [e]; exact hu); exact ⟨b, off, h1, h2, h3, g 0 _ rfl, g 1 _ rfl, g 2 _ rfl, g 3 _ rfl, g 4 _ rfl, g 5 _ rfl, g 6 _ rfl, g 7 _ rfl⟩
theorem OpsAt.form {w : World} {ok : Nat -> Prop} {v : Value} {L : List OpV} (h : OpsAt w ok v L) : ∃ sa c, v = .slice sa L.length c /\ L.length <= c /\ c <= maxLen := by
 have := Rec.form h.row
 rwa [List.length_map] at this
theorem OpsAt.keep {w w' : World} {ok T : Nat -> Prop} {v : Value} {L : List OpV} (h : OpsAt w ok v L) (hk : Keep T w w') (hT : ∀ b, b < w.heap.size -> ok b -> ¬ T b) : OpsAt w' ok v L :=
 ⟨Rec.keep h.row hk hT, fun x hx => ⟨Rec.keep (h.each x hx).p hk hT, Rec.keep (h.each x hx).a hk hT, Rec.keep (h.each x hx).b hk hT, (h.each x hx).wf, (h.each x hx).nil⟩⟩
theorem OpsAt.below {w w' : World} {ok : Nat -> Prop} {v : Value} {L : List OpV} (h : OpsAt w ok v L) (hb : Below w.heap.size w w') : OpsAt w' ok v L := h.keep (Keep.of_below (fun _ => False) hb) (fun _ _ _ h => h)
theorem OpsAt.old {w : World} {ok : Nat -> Prop} {v : Value} {L : List OpV} (h : OpsAt w ok v L) : OpsAt w (fun b => b < w.heap.size) v L :=
 ⟨Rec.mono (Rec.old h.row) (fun _ h => h.2), fun x hx => ⟨Rec.mono (Rec.old (h.each x hx).p) (fun _ h => h.2), Rec.mono (Rec.old (h.each x hx).a) (fun _ h => h.2), Rec.mono (Rec.old (h.each x hx).b) (fun _ h => h.2), (h.each x hx).wf, (h.each x hx).nil⟩⟩
set_option maxRecDepth 100000 in
theorem small_any (L : List OpV) (lv : Value) (ok : Nat -> Prop) (w : World) (hl : OpsAt w ok lv L) :
 Calls Tryz.prog 37 #[lv] w fun e w' => BoolIs e (L.length <= 200 /\ ∀ x ∈ L, SmO x.1) /\ w = w' := by
 obtain ⟨sa, c, rfl, hc, hcm⟩ := hl.form; have HL := H_ hl; obtain ⟨len, hln⟩ : ∃ len, len = L.length := ⟨_, rfl⟩; have HLN := H_ hln; rw [<- hln] at hc ⊢; unfold maxLen at hcm; clear hl hln; go_enter Tryz.func37, Tryz.ntmps37; go_wp2_with fail
 go_loopg [3] len (fun x i wr => ∃ k : Nat, k <= len /\ x = len - k /\ i = .int .i64 k /\ Hid ((∀ j (h : j < L.length), j < k -> SmO L[j].1) /\ w = wr))
 case atStart => exact ⟨0, by omega, by omega, rfl, fun j h hj => absurd hj (Nat.not_lt_zero _), rfl⟩
 case round =>
  obtain ⟨k, hk, rfl, rfl, hK⟩ := hrel; obtain ⟨hA, rfl⟩ := hK.out; have HK := H_ hA; clear hK hA
  by_cases hkl : k < len
  . have hkl' : k < L.length := by have := HLN.out; omega
    obtain ⟨b, off, rfl, -, -, c0, c1, c2, c3, c4, c5, c6, c7⟩ := HL.out.at k hkl'; have HO := H_ (HL.out.each _ (List.getElem_mem hkl'))
    have HS := H_ (show SmO L[k].1 -> ∀ j (h : j < L.length), j < k + 1 -> SmO L[j].1 from fun hs j h hj => by
     rcases Nat.lt_or_ge j k with h1 | h1
     . exact HK.out j h h1
     . have : j = k := by omega
       subst this; exact hs)
    generalize L[k] = x at *; obtain ⟨⟨xk, xn, ⟨pc, pi, po, pd⟩, xa, xb⟩, pv, av, bv⟩ := x
    dsimp only at c0 c1 c2 c3 c4 c5 c6 c7
    have F1 := H_ (light_any po pv ok w HO.out.p (fun o ho => (HO.out.wf.1 o ho).2)); have F2 := H_ (light_any xa av ok w HO.out.a HO.out.wf.2.2.1); have F3 := H_ (light_any xb bv ok w HO.out.b HO.out.wf.2.2.2); have hds : pd.size <= maxLen := HO.out.wf.2.1; unfold maxLen at hds; go_wp2_with fail; refine F1.out.mono ?_; rintro e w1 ⟨⟨b1, rfl, p1⟩, rfl⟩
    cases b1 with
    | false =>
     clear p1; go_wp2_with fail; go_ret; exact ⟨⟨false, rfl, fun h => by cases h⟩, rfl⟩
    | true =>
     have P1 := H_ (p1 rfl); clear p1
     by_cases hd : 2000 < pd.size
     . have dd : decide ((2000 : Int) < (pd.size : Int)) = true := by simp; omega
       clear hd; go_wp2_with fail; go_ret; exact ⟨⟨false, rfl, fun h => by cases h⟩, rfl⟩
     . have dd : decide ((2000 : Int) < (pd.size : Int)) = false := by simp; omega
       have HD := H_ (show pd.size <= 2000 by omega); clear hd; go_wp2_with fail; refine F2.out.mono ?_; rintro e w1 ⟨⟨b2, rfl, p2⟩, rfl⟩
       cases b2 with
       | false =>
        go_wp2_with fail; go_ret; exact ⟨⟨false, rfl, fun h => by cases h⟩, rfl⟩
       | true =>
        have P2 := H_ (p2 rfl); clear p2; go_wp2_with fail; refine F3.out.mono ?_; rintro e w1 ⟨⟨b3, rfl, p3⟩, rfl⟩
        cases b3 with
        | false =>
         go_wp2_with fail; go_ret; exact ⟨⟨false, rfl, fun h => by cases h⟩, rfl⟩
        | true =>
         have P3 := H_ (p3 rfl); clear p3; go_wp2_with fail
         go_roundg (len - (k + 1))
         case measure => omega
         case rel => exact ⟨k + 1, by omega, rfl, by go_num, fun j h hj => HS.out ⟨P1.out, HD.out, P2.out, P3.out⟩ j h hj, rfl⟩
  . obtain rfl : len = k := by omega
    by_cases h2 : len <= 200
    . have dd : decide ((len : Int) <= 200) = true := by simp; omega
      have H2 := H_ h2; clear h2; go_wp2_with fail; go_ret; refine ⟨⟨true, rfl, fun _ => ⟨by have := HLN.out; have := H2.out; omega, fun x hx => ?_⟩⟩, rfl⟩; obtain ⟨j, hj, rfl⟩ := List.getElem_of_mem hx; exact HK.out j hj (by have := HLN.out; omega)
    . have dd : decide ((len : Int) <= 200) = false := by simp; omega
      clear h2; go_wp2_with fail; go_ret; exact ⟨⟨false, rfl, fun h => by cases h⟩, rfl⟩
end Go.Proofs.YtignponfoheaeaaGreat
