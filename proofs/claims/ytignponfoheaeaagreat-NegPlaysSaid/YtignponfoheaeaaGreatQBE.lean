import Derived.Test.YtignponfoheaeaaGreatQBD
import Derived.Test.YtignponfoheaeaaGreatQAP
import Derived.WideShapes
import Derived.ChangeAt
import Derived.OpenShut
set_option linter.unusedVariables false
set_option linter.unusedSimpArgs false
set_option maxHeartbeats 16000000
namespace Go.Proofs.YtignponfoheaeaaGreat
open Go.RowKit Go.Tg Go.Maps Go.WideShapes
theorem intL_k1 (l : List Int) : ∀ x ∈ intL l, x.length = 1 := by
 intro x hx; simp only [intL, List.mem_map] at hx; obtain ⟨o, _, rfl⟩ := hx; rfl
theorem list1 {α : Type} {l : List α} (h : l.length = 1) : ∃ a, l = [a] := by
 match l, h with
 | [a], _ => exact ⟨a, rfl⟩
theorem nums_of {H : Type} {enc : TypeId × Value -> H} {w : World} {base : Nat} {spare : Nat -> Bool} {held : Bool} {fuel : Nat} {a : Option Addr} {len cap : Nat} {x : DataW H × List MemPlace}
 (h : DataW.trod enc Tryz.prog w base spare held fuel 43 [.slice a len cap] = some x) : ∃ l : List Int, l.length = len /\ Nums w (fun _ => True) (.slice a len cap) l /\ (∀ o ∈ l, I64 o) /\ (a = none -> cap = 0) := by
 have c3 : Tryz.prog.cellsOf 3 = 1 := by kernel_rfl
 rcases Go.Deep.open_slice Tryz.underlying43 h with ⟨hcs, _⟩ | ⟨p, l, c, m, n, D, Pl, hcs, hb, hl, hm, hmm, hx, hi⟩
 . simp at hcs
   obtain ⟨rfl, rfl, rfl⟩ := hcs; exact ⟨[], rfl, Rec.nil _ _ _, ⟨(by intro o ho; exact absurd ho List.not_mem_nil), fun _ => rfl⟩⟩
 . simp at hcs
   obtain ⟨rfl, rfl, rfl⟩ := hcs; have hlm : len <= m := by rw [hmm]; split <;> omega
   rw [c3] at hi
   have key : ∀ i, i < len -> ∃ o : Int, (∀ j u, ([.int .i64 o] : List Value)[j]? = some u -> w.cell? (p.add (i * 1 + j)) = some u) /\ I64 o := by
    intro i hil; obtain ⟨cs', hc, ht⟩ := hi i (by omega); obtain ⟨_, hcl, hat⟩ := World.cells?_some hc; obtain ⟨v0, rfl⟩ := list1 hcl; have e0 := hat 0 (by omega); rw [Go.Deep.add_add] at e0; obtain ⟨k0, hk0, -, hw0⟩ := DataW.trod_int Tryz.underlying3 ht; simp only [List.cons.injEq, and_true] at hk0; subst hk0; refine ⟨k0, fun j u hu => ?_, hw0⟩
    match j, hu with
    | 0, hu => cases hu; exact e0
    | j + 1, hu => simp at hu
   obtain ⟨l, hll, hp⟩ := build_list _ len key; refine ⟨l, hll, ⟨intL_k1 l, some p, cap, by rw [intL_len, hll], by rw [intL_len, hll]; exact hl, hm, ?_⟩, ⟨fun o ho => ?_, fun h => by cases h⟩⟩
   . by_cases hz : len = 0
     . left
       have : l = [] := List.eq_nil_of_length_eq_zero (by omega); subst this; rfl
     . right
       obtain ⟨bb, off, spot⟩ := p; have h0 := (hp 0 (by omega)).1 0 _ rfl
       have hn : spot = none := by
        cases spot with
        | none => rfl
        | some s =>
         exfalso
         simp only [Nat.zero_mul, Addr.add, World.cell?, if_true, Option.isSome_some] at h0
         split at h0 <;> cases h0
       subst hn; simp only [Addr.add_lit] at h0; refine ⟨bb, off, rfl, ?_, trivial, ?_⟩
       . unfold World.cell? at h0
         by_cases hlt : bb < w.heap.size
         . exact hlt
         . have : w.heap[bb]? = none := by simp; omega
           simp [this] at h0
       . intro i hi j u hu; have hi' : i < l.length := by rwa [intL_len] at hi
         have e : (intL l)[i] = [.int .i64 l[i]] := by simp [intL]
         rw [e] at hu; have := (hp i hi').1 j u hu; rw [Addr.add_lit, <- Nat.add_assoc] at this; exact this
   . obtain ⟨i, hil, rfl⟩ := List.getElem_of_mem ho; exact (hp i hil).2
theorem array8 {α : Type} {cs : Array α} (h : cs.size = 8) : ∃ a b c d e f g i, cs = #[a, b, c, d, e, f, g, i] := by
 obtain ⟨l⟩ := cs; obtain ⟨a, b, c, d, e, f, g, i, rfl⟩ := list8 (show l.length = 8 from h); exact ⟨a, b, c, d, e, f, g, i, rfl⟩
structure SetupIn (w : World) (ask : List Opt) (own peer : List Rl) (must : List Int) (av ov pv mv : Value) : Prop where
 a : Opts w (fun _ => True) av ask
 o : Rls w (fun _ => True) ov own
 p : Rls w (fun _ => True) pv peer
 m : Nums w (fun _ => True) mv must
 na : ∀ n c, av = .slice none n c -> c = 0
 no : ∀ n c, ov = .slice none n c -> c = 0
 np : ∀ n c, pv = .slice none n c -> c = 0
 nm : ∀ n c, mv = .slice none n c -> c = 0
 va : ∀ o ∈ ask, o.v.size <= maxLen
 so : ∀ o ∈ own, o.s.size <= maxLen
 sp : ∀ o ∈ peer, o.s.size <= maxLen
theorem cap_nil {a : Option Addr} {l c : Nat} (h : a = none -> c = 0) : ∀ n c', Value.slice a l c = .slice none n c' -> c' = 0 := by
 intro n c' e; cases e
 exact h rfl
set_option maxRecDepth 100000 in
theorem setup_arg {H : Type} {enc : TypeId × Value -> H} {w : World} {base : Nat} {spare : Nat -> Bool} {held : Bool} {r : Reach} {b0 : Nat} {v : Value} {d : DataW H} {p : List MemPlace}
 (hv : Value.okWide Tryz.prog w r b0 77 v) (h : DataW.Trod enc Tryz.prog w base spare held 77 v d p) :
 ∃ ask own peer must av ov pv mv cf tm fl wt, v = .agg #[av, ov, pv, mv, .int .i64 cf, .int .i64 tm, .int .i64 fl, .int .i64 wt] /\ SetupIn w ask own peer must av ov pv mv := by
 have hs := Tryz.underlying77; obtain ⟨cs, rfl, hsz⟩ := okWide_struct hs hv; have h8 : Tryz.prog.cellsOf 77 = 8 := by kernel_rfl
 have h1 : Tryz.prog.cellsOf 3 = 1 := by kernel_rfl
 have hO : Tryz.prog.cellsOf 62 = 1 := by kernel_rfl
 have hR : Tryz.prog.cellsOf 61 = 1 := by kernel_rfl
 have hI : Tryz.prog.cellsOf 43 = 1 := by kernel_rfl
 obtain ⟨c0, c1, c2, c3, c4, c5, c6, c7, rfl⟩ := array8 (hsz.trans h8); obtain ⟨fuel, hf⟩ := h; obtain ⟨xs, n, -, -, -, hlen, hf⟩ := DataW.trod_struct hs hf; obtain ⟨y0, y1, y2, y3, y4, y5, y6, y7, rfl⟩ := list8 (show xs.length = 8 from hlen); have e0 : DataW.trod enc Tryz.prog w base spare held n 62 ((([c0, c1, c2, c3, c4, c5, c6, c7] : List Value).drop 0).take (Tryz.prog.cellsOf 62)) = some y0 := hf 0 _ rfl; have e1 : DataW.trod enc Tryz.prog w base spare held n 61 ((([c0, c1, c2, c3, c4, c5, c6, c7] : List Value).drop 1).take (Tryz.prog.cellsOf 61)) = some y1 := hf 1 _ rfl; have e2 : DataW.trod enc Tryz.prog w base spare held n 61 ((([c0, c1, c2, c3, c4, c5, c6, c7] : List Value).drop 2).take (Tryz.prog.cellsOf 61)) = some y2 := hf 2 _ rfl; have e3 : DataW.trod enc Tryz.prog w base spare held n 43 ((([c0, c1, c2, c3, c4, c5, c6, c7] : List Value).drop 3).take (Tryz.prog.cellsOf 43)) = some y3 := hf 3 _ rfl; have e4 : DataW.trod enc Tryz.prog w base spare held n 3 ((([c0, c1, c2, c3, c4, c5, c6, c7] : List Value).drop 4).take (Tryz.prog.cellsOf 3)) = some y4 := hf 4 _ rfl; have e5 : DataW.trod enc Tryz.prog w base spare held n 3 ((([c0, c1, c2, c3, c4, c5, c6, c7] : List Value).drop 5).take (Tryz.prog.cellsOf 3)) = some y5 := hf 5 _ rfl; have e6 : DataW.trod enc Tryz.prog w base spare held n 3 ((([c0, c1, c2, c3, c4, c5, c6, c7] : List Value).drop 6).take (Tryz.prog.cellsOf 3)) = some y6 := hf 6 _ rfl; have e7 : DataW.trod enc Tryz.prog w base spare held n 3 ((([c0, c1, c2, c3, c4, c5, c6, c7] : List Value).drop 7).take (Tryz.prog.cellsOf 3)) = some y7 := hf 7 _ rfl; rw [hO] at e0; rw [hR] at e1 e2; rw [hI] at e3; rw [h1] at e4 e5 e6 e7; simp only [List.drop_zero, List.drop_succ_cons, List.take_succ_cons, List.take_zero] at e0 e1 e2 e3 e4 e5 e6 e7; obtain ⟨k4, z4, -, w4⟩ := DataW.trod_int (x := y4) Tryz.underlying3 e4; obtain ⟨k5, z5, -, w5⟩ := DataW.trod_int (x := y5) Tryz.underlying3 e5; obtain ⟨k6, z6, -, w6⟩ := DataW.trod_int (x := y6) Tryz.underlying3 e6; obtain ⟨k7, z7, -, w7⟩ := DataW.trod_int (x := y7) Tryz.underlying3 e7; simp only [List.cons.injEq, and_true] at z4 z5 z6 z7; subst z4 z5 z6 z7
 obtain ⟨a0, l0, q0, rfl⟩ : ∃ a l c, c0 = .slice a l c := by
  rcases Go.Deep.open_slice Tryz.underlying62 e0 with ⟨h, _⟩ | ⟨p, l, c, _, _, _, _, h, _⟩ <;> simp at h <;> exact ⟨_, _, _, h⟩
 obtain ⟨a1, l1, q1, rfl⟩ : ∃ a l c, c1 = .slice a l c := by
  rcases Go.Deep.open_slice Tryz.underlying61 e1 with ⟨h, _⟩ | ⟨p, l, c, _, _, _, _, h, _⟩ <;> simp at h <;> exact ⟨_, _, _, h⟩
 obtain ⟨a2, l2, q2, rfl⟩ : ∃ a l c, c2 = .slice a l c := by
  rcases Go.Deep.open_slice Tryz.underlying61 e2 with ⟨h, _⟩ | ⟨p, l, c, _, _, _, _, h, _⟩ <;> simp at h <;> exact ⟨_, _, _, h⟩
 obtain ⟨a3, l3, q3, rfl⟩ : ∃ a l c, c3 = .slice a l c := by
  rcases Go.Deep.open_slice Tryz.underlying43 e3 with ⟨h, _⟩ | ⟨p, l, c, _, _, _, _, h, _⟩ <;> simp at h <;> exact ⟨_, _, _, h⟩
 obtain ⟨ask, -, x1, x2, x3⟩ := opts_of e0; obtain ⟨own, -, x4, x5, x6⟩ := rls_of e1; obtain ⟨peer, -, x7, x8, x9⟩ := rls_of e2; obtain ⟨must, -, x10, -, x11⟩ := nums_of e3; exact ⟨ask, own, peer, must, _, _, _, _, _, _, _, _, rfl, ⟨x1, x4, x7, x10, cap_nil x3, cap_nil x6, cap_nil x9, cap_nil x11, fun o ho => (x2 o ho).2, fun o ho => (x5 o ho).2, fun o ho => (x8 o ho).2⟩⟩
end Go.Proofs.YtignponfoheaeaaGreat
