import Derived.Test.YthhdackaopaojaaGreatK23
import Derived.Test.YthhdackaopaojaaGreatO
import Derived.Test.YthhdackaopaojaaGreatK30
import Derived.OpenShut
import Derived.Lib.SmallJoins
/- A link that hears itself: the plain law. -/
namespace Go.Proofs.YthhdackaopaojaaGreat
open Go.RowKit Go.Tg Go.Maps

/-- The config of the law: it asks for a magic number alone. -/
def cfgL (m : Int) : LCfg := ⟨1492, 0, m, 0, 5, 2, 5, 3⟩
def CL (lb : Nat) : NegC := ⟨[unitR 1492, magicR], [], [3], 5, 2, 5, 3, judgeV lb⟩
/-! ### The states -/
def stA (k m : Int) : NSt := ⟨6, 4, k + 1, k + 1, k, 0, [⟨5, pB4 m⟩], [], [], 0, 0⟩
def stB (k m : Int) : NSt := ⟨6, 4, k, k, k, 0, [⟨5, pB4 m⟩], [], [], 0, 0⟩
def lsA (k m : Int) (t : TpS) : LSt := ⟨stA k m, m, k, 0, 0, t⟩
def lsB (k m : Int) (t : TpS) : LSt := ⟨stB k m, m, k, 0, 0, t⟩
def pkA (k m : Int) : Pk := ⟨1, k + 1, [⟨5, pB4 m⟩], noB⟩
def pkB (k m' : Int) : Pk := ⟨3, k, [⟨5, pB4 m'⟩], noB⟩
end Go.Proofs.YthhdackaopaojaaGreat

/- A link that hears itself: its orbit. -/
namespace Go.Proofs.YthhdackaopaojaaGreat
open Go.RowKit Go.Tg Go.Maps

def stC (m : Int) : NSt := ⟨4, 1, 5, 4, 3, 0, [⟨5, pB4 m⟩], [], [], 0, 0⟩
def stE (m : Int) : NSt := ⟨2, 1, 5, 4, 3, 0, [⟨5, pB4 m⟩], [], [], 0, 0⟩
def lsC (m : Int) (t : TpS) : LSt := ⟨stC m, m, 4, 0, 0, t⟩
def lsE (m : Int) (t : TpS) : LSt := ⟨stE m, m, 4, 0, 0, t⟩
def pkC : Pk := ⟨5, 5, [], noB⟩
def pkD : Pk := ⟨6, 5, [], noB⟩
theorem ltakeN_1 {C : NegC} {s : LSt} {p : Pk} (h : p.code = 1) : ltakeN C s p = ({ s with st := (reqS rejS C s.st p (ljudgeS s.own s.t p.o).1).1, t := (ljudgeS s.own s.t p.o).2 }, (reqS rejS C s.st p (ljudgeS s.own s.t p.o).1).2) := by unfold ltakeN; exact if_pos h
theorem ltakeN_n {C : NegC} {s : LSt} {p : Pk} (h : p.code ≠ 1) : ltakeN C s p = ({ s with st := (takeS C s.st p).1 }, (takeS C s.st p).2) := by unfold ltakeN; exact if_neg h
theorem ltakeS_f {C : NegC} {s : LSt} {p : Pk} (h : loopedS s.own p = false) : ltakeS C s p = (syncS (anewS s.st.ups (ltakeN C s p).1), (ltakeN C s p).2) := by
  unfold ltakeS; exact if_neg (by rw [h]; decide)
theorem anewS_id {u : Int} {s : LSt} (h : s.st.ups = u) : anewS u s = s := by unfold anewS; exact if_pos h

/-- Where it may be. -/
def Orb (s : LSt) (l : List Pk) : Prop :=
  ∃ m t, (1 ≤ m ∧ m < 4294967296) ∧ ((∃ k, (k = 0 ∨ k = 1 ∨ k = 2 ∨ k = 3) ∧ s = lsA k m t ∧ l = [pkA k m]) ∨ (∃ k m', (k = 1 ∨ k = 2 ∨ k = 3) ∧ (1 ≤ m' ∧ m' < 4294967296) ∧ s = lsB k m t ∧ l = [pkB k m']) ∨
    (s = lsC m t ∧ l = [pkC]) ∨ (s = lsC m t ∧ l = [pkD]) ∨ (s = lsE m t ∧ l = []))
end Go.Proofs.YthhdackaopaojaaGreat

/- A link that hears itself: the walk. -/
namespace Go.Proofs.YthhdackaopaojaaGreat
open Go.RowKit Go.Tg Go.Maps

/-- Packets that a link's calls do not turn. -/
def PkFree (L : LB) (w : World) (v : Value) (l : List Pk) : Prop := ∃ ok base, PksAt w ok base v l ∧ ∀ b, ok b ∨ base ≤ b → ¬ L.t b

end Go.Proofs.YthhdackaopaojaaGreat

/- A list of numbers as an argument. -/
namespace Go.Proofs.YthhdackaopaojaaGreat
open Go.RowKit Go.Tg Go.Maps

theorem intL_k1 (l : List Int) : ∀ x ∈ intL l, x.length = 1 := by
  intro x hx; simp only [intL, List.mem_map] at hx; obtain ⟨o, _, rfl⟩ := hx; rfl
theorem list1 {α : Type} {l : List α} (h : l.length = 1) : ∃ a, l = [a] := by
  match l, h with
  | [a], _ => exact ⟨a, rfl⟩

set_option maxHeartbeats 1000000 in
theorem ints_of {H : Type} {enc : TypeId × Value → H} {w : World} {base : Nat} {spare : Nat → Bool} {held : Bool} {fuel : Nat} {a : Option Addr} {len cap : Nat} {x : DataW H × List MemPlace}
    (h : DataW.trod enc Tryz.prog w base spare held fuel 22 [.slice a len cap] = some x) : ∃ l : List Int, l.length = len ∧ Nums w (fun _ => True) (.slice a len cap) l ∧ (∀ o ∈ l, I64 o) := by
  have c3 : Tryz.prog.cellsOf 3 = 1 := by kernel_rfl
  rcases Go.Deep.open_slice Tryz.underlying22 h with ⟨hcs, _⟩ | ⟨p, l, c, m, n, D, Pl, hcs, hb, hl, hm, hmm, hx, hi⟩
  · simp at hcs
    obtain ⟨rfl, rfl, rfl⟩ := hcs
    exact ⟨[], rfl, Rec.nil _ _ _, (by intro o ho; exact absurd ho List.not_mem_nil)⟩
  · simp at hcs
    obtain ⟨rfl, rfl, rfl⟩ := hcs
    have hlm : len ≤ m := by rw [hmm]; split <;> omega
    rw [c3] at hi
    have key : ∀ i, i < len → ∃ o : Int, (∀ j u, ([.int .i64 o] : List Value)[j]? = some u → w.cell? (p.add (i * 1 + j)) = some u) ∧ I64 o := by
      intro i hil
      obtain ⟨cs', hc, ht⟩ := hi i (by omega)
      obtain ⟨_, hcl, hat⟩ := World.cells?_some hc
      obtain ⟨v0, rfl⟩ := list1 hcl
      have e0 := hat 0 (by omega)
      rw [Go.Deep.add_add] at e0
      obtain ⟨k0, hk0, -, hw0⟩ := DataW.trod_int Tryz.underlying3 ht
      simp only [List.cons.injEq, and_true] at hk0
      subst hk0
      refine ⟨k0, fun j u hu => ?_, hw0⟩
      match j, hu with
      | 0, hu => cases hu; exact e0
      | j + 1, hu => simp at hu
    obtain ⟨l, hll, hp⟩ := build_list _ len key
    refine ⟨l, hll, ⟨intL_k1 l, some p, cap, by rw [intL_len, hll], by rw [intL_len, hll]; exact hl, hm, ?_⟩, fun o ho => ?_⟩
    · by_cases hz : len = 0
      · left
        have : l = [] := List.eq_nil_of_length_eq_zero (by omega)
        subst this; rfl
      · right
        obtain ⟨bb, off, spot⟩ := p
        have h0 := (hp 0 (by omega)).1 0 _ rfl
        have hn : spot = none := by
          cases spot with
          | none => rfl
          | some s =>
            exfalso
            simp only [Nat.zero_mul, Addr.add, World.cell?, if_true, Option.isSome_some] at h0
            split at h0 <;> cases h0
        subst hn
        simp only [Addr.add_lit] at h0
        refine ⟨bb, off, rfl, ?_, trivial, ?_⟩
        · unfold World.cell? at h0
          by_cases hlt : bb < w.heap.size
          · exact hlt
          · have : w.heap[bb]? = none := by simp; omega
            simp [this] at h0
        · intro i hi j u hu
          have hi' : i < l.length := by rwa [intL_len] at hi
          have e : (intL l)[i] = [.int .i64 l[i]] := by simp [intL]
          rw [e] at hu
          have := (hp i hi').1 j u hu
          rw [Addr.add_lit, ← Nat.add_assoc] at this
          exact this
    · obtain ⟨i, hil, rfl⟩ := List.getElem_of_mem ho
      exact (hp i hil).2
end Go.Proofs.YthhdackaopaojaaGreat

/- The law of what is asked. -/
namespace Go.Proofs.YthhdackaopaojaaGreat
open Go.RowKit Go.Tg Go.Maps

theorem pB2_val (x : Int) (h : 0 ≤ x ∧ x < 65536) : valB (pB2 x).data.toList = x := by
  have e : (pB2 x).data.toList = [byteOf (x / 256 % 256), byteOf (x % 256)] := rfl
  rw [e]
  simp only [valB, List.foldl_cons, List.foldl_nil]
  rw [byteOf_nat _ (md _), byteOf_nat _ (md _)]
  omega
theorem pB4_val (x : Int) (h : 0 ≤ x ∧ x < 4294967296) : valB (pB4 x).data.toList = x := by
  have e : (pB4 x).data.toList = [byteOf (x / 16777216 % 256), byteOf (x / 65536 % 256), byteOf (x / 256 % 256), byteOf (x % 256)] := rfl
  rw [e]
  simp only [valB, List.foldl_cons, List.foldl_nil]
  rw [byteOf_nat _ (md _), byteOf_nat _ (md _), byteOf_nat _ (md _), byteOf_nat _ (md _)]
  omega
theorem optsS_find (c : LCfg) : findO (optsS c) 1 = (if c.mru = 1492 then none else some ⟨1, pB2 c.mru⟩) ∧ findO (optsS c) 3 = (if c.auth = 0 then none else some ⟨3, lvalS c.auth⟩) ∧ findO (optsS c) 5 = (if c.magic = 0 then none else some ⟨5, pB4 c.magic⟩) := by
  unfold optsS optsS2 optsS1 findO
  by_cases h1 : c.mru = 1492 <;> by_cases h2 : c.auth = 0 <;> by_cases h3 : c.magic = 0 <;> simp [h1, h2, h3]

end Go.Proofs.YthhdackaopaojaaGreat

/- A config as an argument. -/
namespace Go.Proofs.YthhdackaopaojaaGreat
open Go.RowKit Go.Tg Go.Maps Go.ChangeShapes Go.WideShapes Go.ChangeAt

theorem array8 {α : Type} {cs : Array α} (h : cs.size = 8) : ∃ c0 c1 c2 c3 c4 c5 c6 c7, cs = #[c0, c1, c2, c3, c4, c5, c6, c7] := by
  obtain ⟨l⟩ := cs
  match l, h with
  | [c0, c1, c2, c3, c4, c5, c6, c7], _ => exact ⟨c0, c1, c2, c3, c4, c5, c6, c7, rfl⟩

theorem list8 {α : Type} {l : List α} (h : l.length = 8) : ∃ c0 c1 c2 c3 c4 c5 c6 c7, l = [c0, c1, c2, c3, c4, c5, c6, c7] := by
  match l, h with
  | [c0, c1, c2, c3, c4, c5, c6, c7], _ => exact ⟨c0, c1, c2, c3, c4, c5, c6, c7, rfl⟩

set_option maxRecDepth 10000 in
theorem cfg_arg {H : Type} {enc : TypeId × Value → H} {w : World} {base : Nat} {spare : Nat → Bool} {held : Bool} {r : Reach} {b0 : Nat} {v : Value} {d : DataW H} {p : List MemPlace}
    (hv : Value.okWide Tryz.prog w r b0 24 v) (h : DataW.Trod enc Tryz.prog w base spare held 24 v d p) : ∃ c : LCfg, v = cfgV c ∧ I64 c.auth := by
  have hs := Tryz.underlying24
  obtain ⟨cs, rfl, hsz⟩ := okWide_struct hs hv
  have h8 : Tryz.prog.cellsOf 24 = 8 := by kernel_rfl
  have h1 : Tryz.prog.cellsOf 3 = 1 := by kernel_rfl
  obtain ⟨c0, c1, c2, c3, c4, c5, c6, c7, rfl⟩ := array8 (hsz.trans h8)
  obtain ⟨fuel, hf⟩ := h
  obtain ⟨xs, n, -, -, -, hlen, hf⟩ := DataW.trod_struct hs hf
  obtain ⟨y0, y1, y2, y3, y4, y5, y6, y7, rfl⟩ := list8 (show xs.length = 8 from hlen)
  have e0 : DataW.trod enc Tryz.prog w base spare held n 3 ((([c0, c1, c2, c3, c4, c5, c6, c7] : List Value).drop 0).take (Tryz.prog.cellsOf 3)) = some y0 := hf 0 _ rfl
  have e1 : DataW.trod enc Tryz.prog w base spare held n 3 ((([c0, c1, c2, c3, c4, c5, c6, c7] : List Value).drop 1).take (Tryz.prog.cellsOf 3)) = some y1 := hf 1 _ rfl
  have e2 : DataW.trod enc Tryz.prog w base spare held n 3 ((([c0, c1, c2, c3, c4, c5, c6, c7] : List Value).drop 2).take (Tryz.prog.cellsOf 3)) = some y2 := hf 2 _ rfl
  have e3 : DataW.trod enc Tryz.prog w base spare held n 3 ((([c0, c1, c2, c3, c4, c5, c6, c7] : List Value).drop 3).take (Tryz.prog.cellsOf 3)) = some y3 := hf 3 _ rfl
  have e4 : DataW.trod enc Tryz.prog w base spare held n 3 ((([c0, c1, c2, c3, c4, c5, c6, c7] : List Value).drop 4).take (Tryz.prog.cellsOf 3)) = some y4 := hf 4 _ rfl
  have e5 : DataW.trod enc Tryz.prog w base spare held n 3 ((([c0, c1, c2, c3, c4, c5, c6, c7] : List Value).drop 5).take (Tryz.prog.cellsOf 3)) = some y5 := hf 5 _ rfl
  have e6 : DataW.trod enc Tryz.prog w base spare held n 3 ((([c0, c1, c2, c3, c4, c5, c6, c7] : List Value).drop 6).take (Tryz.prog.cellsOf 3)) = some y6 := hf 6 _ rfl
  have e7 : DataW.trod enc Tryz.prog w base spare held n 3 ((([c0, c1, c2, c3, c4, c5, c6, c7] : List Value).drop 7).take (Tryz.prog.cellsOf 3)) = some y7 := hf 7 _ rfl
  rw [h1] at e0 e1 e2 e3 e4 e5 e6 e7
  obtain ⟨n0, k0, -, w0⟩ := DataW.trod_int (x := y0) Tryz.underlying3 (by simpa using e0)
  obtain ⟨n1, k1, -, w1⟩ := DataW.trod_int (x := y1) Tryz.underlying3 (by simpa using e1)
  obtain ⟨n2, k2, -, w2⟩ := DataW.trod_int (x := y2) Tryz.underlying3 (by simpa using e2)
  obtain ⟨n3, k3, -, w3⟩ := DataW.trod_int (x := y3) Tryz.underlying3 (by simpa using e3)
  obtain ⟨n4, k4, -, w4⟩ := DataW.trod_int (x := y4) Tryz.underlying3 (by simpa using e4)
  obtain ⟨n5, k5, -, w5⟩ := DataW.trod_int (x := y5) Tryz.underlying3 (by simpa using e5)
  obtain ⟨n6, k6, -, w6⟩ := DataW.trod_int (x := y6) Tryz.underlying3 (by simpa using e6)
  obtain ⟨n7, k7, -, w7⟩ := DataW.trod_int (x := y7) Tryz.underlying3 (by simpa using e7)
  simp only [List.cons.injEq, and_true] at k0 k1 k2 k3 k4 k5 k6 k7
  subst k0 k1 k2 k3 k4 k5 k6 k7
  exact ⟨⟨n0, n1, n2, n3, n4, n5, n6, n7⟩, rfl, w1⟩
end Go.Proofs.YthhdackaopaojaaGreat

/- Two links. -/
namespace Go.Proofs.YthhdackaopaojaaGreat
open Go.RowKit Go.Tg Go.Maps

/-- Two links side by side, that no call of the one turns of the other. -/
def L2 (w0 w : World) (Lx Ly : LB) (Cx Cy : NegC) (ex ey : Int) (sx sy : LSt) : Prop :=
  ∃ U V, LcpV w U Lx Cx ex sx ∧ LcpV w V Ly Cy ey sy ∧ (∀ b, U b → ¬ Ly.t b) ∧ (∀ b, V b → ¬ Lx.t b) ∧ (∀ b, U b → w0.heap.size ≤ b) ∧ (∀ b, V b → w0.heap.size ≤ b) ∧ Below w0.heap.size w0 w
section
variable {w0 w w' w1 w2 : World} {okp okt : Nat → Prop} {Lx Ly : LB} {Cx Cy : NegC} {ex ey : Int} {sx sy : LSt}
theorem L2.symm (h : L2 w0 w Lx Ly Cx Cy ex ey sx sy) : L2 w0 w Ly Lx Cy Cx ey ex sy sx := by
  obtain ⟨U, V, h1, h2, h3, h4, h5, h6, h7⟩ := h
  exact ⟨V, U, h2, h1, h4, h3, h6, h5, h7⟩
theorem L2.below (h : L2 w0 w Lx Ly Cx Cy ex ey sx sy) (hb : Below w.heap.size w w') : L2 w0 w' Lx Ly Cx Cy ex ey sx sy := by
  obtain ⟨U, V, h1, h2, h3, h4, h5, h6, h7⟩ := h
  exact ⟨U, V, h1.below hb, h2.below hb, h3, h4, h5, h6, h7.trans (hb.mono h7.size)⟩
theorem L2.ltx (h : L2 w0 w Lx Ly Cx Cy ex ey sx sy) {b : Nat} (hb : Lx.t b) : w0.heap.size ≤ b ∧ b < w.heap.size := by
  obtain ⟨U, V, h1, h2, h3, h4, h5, h6, h7⟩ := h
  exact ⟨h5 b (h1.us hb), h1.lt hb⟩
theorem L2.lty (h : L2 w0 w Lx Ly Cx Cy ex ey sx sy) {b : Nat} (hb : Ly.t b) : w0.heap.size ≤ b ∧ b < w.heap.size := h.symm.ltx hb
theorem L2.bel (h : L2 w0 w Lx Ly Cx Cy ex ey sx sy) : Below w0.heap.size w0 w := by
  obtain ⟨U, V, h1, h2, h3, h4, h5, h6, h7⟩ := h
  exact h7
theorem L2.turn {U V : Nat → Prop} {r : LSt} (h2 : LcpV w V Ly Cy ey sy) (h3 : ∀ b, U b → ¬ Ly.t b) (h4 : ∀ b, V b → ¬ Lx.t b) (h5 : ∀ b, U b → w0.heap.size ≤ b) (h6 : ∀ b, V b → w0.heap.size ≤ b) (h7 : Below w0.heap.size w0 w) (ht : ∀ b, Lx.t b → w0.heap.size ≤ b)
    (hv : LcpV w' (Grow U w) Lx Cx ex r) (hk : Keep Lx.t w w') : L2 w0 w' Lx Ly Cx Cy ex ey r sy :=
  ⟨_, V, hv, h2.keep hk (fun b _ hb => h4 b hb), fun b hb hy => hb.elim (fun hb => h3 b hb hy) (fun hb => by have := h2.lt hy; omega), h4, fun b hb => hb.elim (h5 b) (fun hb => Nat.le_trans h7.size hb), h6,
    h7.trans (hk.below h7.size (fun b hb hx => by have := ht b hx; omega))⟩
theorem L2.Do (h : L2 w0 w Lx Ly Cx Cy ex ey sx sy) (ev : Int) (hev : 0 ≤ ev ∧ ev ≤ 3) :
    Calls Tryz.prog 14 #[.pointer (some ⟨Lx.lb, 0, none⟩), .int .i64 ev] w fun e w' => ∃ v, e = .returned v ∧ PksAt w' (Grow (fun _ => False) w) w.heap.size v (doL Cx sx ev).2 ∧ L2 w0 w' Lx Ly Cx Cy ex ey (doL Cx sx ev).1 sy ∧ Keep Lx.t w w' := by
  have ht := fun b (hb : Lx.t b) => (h.ltx hb).1
  obtain ⟨U, V, ⟨S, ok, X, hv, hu⟩, h2, h3, h4, h5, h6, h7⟩ := h
  refine (LDo_at hv hu ev hev).mono ?_
  rintro e w' ⟨v, q1, q2, q3, q4⟩
  exact ⟨v, q1, q2, L2.turn h2 h3 h4 h5 h6 h7 ht q3 q4, q4⟩
theorem L2.Take (h : L2 w0 w Lx Ly Cx Cy ex ey sx sy) (hy : sx.Sync) (p : Pk) (po : Value) (hp : PkOk p) (hc : p.code ≤ 7) (ho : Opts w okp po p.o) (hok : ∀ b, okp b → ¬ Lx.t b) (h7 : ∀ o, findO (ltakeN Cx sx p).1.st.req 5 = some o → o.v.size ≤ 7) :
    Calls Tryz.prog 15 #[.pointer (some ⟨Lx.lb, 0, none⟩), pkV p po] w fun e w' => ∃ v, e = .returned v ∧ PksAt w' (Grow okp w) w.heap.size v (ltakeS Cx sx p).2 ∧ L2 w0 w' Lx Ly Cx Cy ex ey (ltakeS Cx sx p).1 sy ∧ Keep Lx.t w w' := by
  have ht := fun b (hb : Lx.t b) => (h.ltx hb).1
  obtain ⟨U, V, ⟨S, ok, X, hv, hu⟩, h2, h3, h4, h5, h6, hb7⟩ := h
  refine (LTake_at p po hp hc hv hu hy ho hok h7).mono ?_
  rintro e w' ⟨v, q1, q2, q3, q4⟩
  exact ⟨v, q1, q2, L2.turn h2 h3 h4 h5 h6 hb7 ht q3 q4, q4⟩
theorem L2.x (h : L2 w0 w Lx Ly Cx Cy ex ey sx sy) : ∃ S ok X, LcpAt w S ok Lx Cx ex sx X := by
  obtain ⟨U, V, ⟨S, ok, X, hv, hu⟩, _⟩ := h
  exact ⟨S, ok, X, hv⟩
theorem L2.y (h : L2 w0 w Lx Ly Cx Cy ex ey sx sy) : ∃ S ok X, LcpAt w S ok Ly Cy ey sy X := h.symm.x
/-- Two that were made one behind the other. -/
theorem L2.made (h1 : LK w0 w1 Lx Cx ex sx) (h2 : LK w1 w2 Ly Cy ey sy) : L2 w0 w2 Lx Ly Cx Cy ex ey sx sy :=
  ⟨fun b => w0.heap.size ≤ b ∧ b < w1.heap.size, fun b => w1.heap.size ≤ b, by
    obtain ⟨S, ok, X, hv, hu⟩ := h1.v
    have h : LcpV w1 (fun b => w0.heap.size ≤ b ∧ b < w1.heap.size) Lx Cx ex sx := ⟨_, ok, X, hv.old, fun b hb => by
      rcases hb with hb | hb | rfl | rfl
      · exact ⟨hu b (.inl hb.1), hb.2⟩
      · exact ⟨hu b (.inr (.inl hb)), (hv.n3 b hb).2.2⟩
      · exact ⟨hu _ (.inr (.inr (.inl rfl))), hv.llt⟩
      · exact ⟨hu _ (.inr (.inr (.inr rfl))), hv.tlt⟩⟩
    exact h.below h2.b, h2.v, fun b hb hy => by have := (h2.nt hy).1; have := hb.2; omega, fun b hb hx => by have hb : w1.heap.size ≤ b := hb; have := (h1.nt hx).2; omega, fun b hb => hb.1,
    fun b hb => Nat.le_trans h1.b.size hb, h1.b.trans (h2.b.mono h1.b.size)⟩
end
/-- Packets that no call of the two turns. -/
def PkFr2 (Lx Ly : LB) (w : World) (v : Value) (l : List Pk) : Prop := ∃ ok base, PksAt w ok base v l ∧ ∀ b, ok b ∨ base ≤ b → ¬ Lx.t b ∧ ¬ Ly.t b
theorem PkFr2.keep {Lx Ly : LB} {w w' : World} {v : Value} {l : List Pk} (h : PkFr2 Lx Ly w v l) {T : Nat → Prop} (hk : Keep T w w') (hT : ∀ b, T b → Lx.t b ∨ Ly.t b) : PkFr2 Lx Ly w' v l := by
  obtain ⟨ok, base, h1, h2⟩ := h
  exact ⟨ok, base, h1.keep hk (fun b _ hb ht => (hT b ht).elim (h2 b hb).1 (h2 b hb).2), h2⟩
theorem PkFr2.nil (Lx Ly : LB) (w : World) {w0 : World} {Cx Cy : NegC} {ex ey : Int} {sx sy : LSt} (h : L2 w0 w Lx Ly Cx Cy ex ey sx sy) : PkFr2 Lx Ly w (.slice none 0 0) [] :=
  ⟨fun _ => False, w.heap.size, PksAt.nil _ _ _, fun b hb => by
    rcases hb with hb | hb
    · exact hb.elim
    · exact ⟨fun ht => by have := (h.ltx ht).2; omega, fun ht => by have := (h.lty ht).2; omega⟩⟩
end Go.Proofs.YthhdackaopaojaaGreat

/- Two links hear each other. -/
namespace Go.Proofs.YthhdackaopaojaaGreat
open Go.RowKit Go.Tg Go.Maps

/-- A packet that may be heard. -/
def HearOk (C : NegC) (s : LSt) (p : Pk) : Prop := s.Sync ∧ PkOk p ∧ p.code ≤ 7 ∧ (∀ o, findO (ltakeN C s p).1.st.req 5 = some o → o.v.size ≤ 7) ∧ (ltakeS C s p).2.length ≤ 1000000
/-- One round: both are silent, or each hears one packet. -/
def Round (P : Nat → LSt → LSt → List Pk → List Pk → Prop) (Cx Cy : NegC) (k : Nat) (sx sy : LSt) (lp lq : List Pk) : Prop :=
  (lp = [] ∧ lq = [] ∧ P (k + 1) sx sy [] []) ∨
  (∃ p q, lp = [p] ∧ lq = [q] ∧ HearOk Cy sy p ∧ HearOk Cx sx q ∧ P (k + 1) (ltakeS Cx sx q).1 (ltakeS Cy sy p).1 (ltakeS Cx sx q).2 (ltakeS Cy sy p).2)

set_option maxHeartbeats 8000000 in
set_option maxRecDepth 100000 in
theorem exchange_any (P : Nat → LSt → LSt → List Pk → List Pk → Prop) {w0 w : World} {Lx Ly : LB} {Cx Cy : NegC} {ex ey : Int} {sx sy : LSt} {vp vq : Value} {lp lq : List Pk} (N : Nat) (hN : N ≤ 40)
    (hP : ∀ k sx sy lp lq, k < N → P k sx sy lp lq → Round P Cx Cy k sx sy lp lq) (h0 : P 0 sx sy lp lq) (hl : L2 w0 w Lx Ly Cx Cy ex ey sx sy) (hp : PkFr2 Lx Ly w vp lp) (hq : PkFr2 Lx Ly w vq lq) :
    Calls Tryz.prog 25 #[.pointer (some ⟨Lx.lb, 0, none⟩), .pointer (some ⟨Ly.lb, 0, none⟩), vp, vq, .int .i64 N] w fun e w' => e = .returned (.tuple #[]) ∧ ∃ sx' sy' lp' lq', P N sx' sy' lp' lq' ∧ L2 w0 w' Lx Ly Cx Cy ex ey sx' sy' := by
  have HP := Lib.hid hP
  have HI := Lib.hid (show ∃ sx sy lp lq, P 0 sx sy lp lq ∧ L2 w0 w Lx Ly Cx Cy ex ey sx sy ∧ PkFr2 Lx Ly w vp lp ∧ PkFr2 Lx Ly w vq lq from ⟨_, _, _, _, h0, hl, hp, hq⟩)
  clear hP h0 hl hp hq
  go_enter Tryz.func25, Tryz.ntmps25
  go_wp2_with fail
  go_loopg [2, 3, 10] N (fun x vp vq i wr => ∃ k : Nat, k ≤ N ∧ x = N - k ∧ i = .int .i64 k ∧ Hid (∃ sx sy lp lq, P k sx sy lp lq ∧ L2 w0 wr Lx Ly Cx Cy ex ey sx sy ∧ PkFr2 Lx Ly wr vp lp ∧ PkFr2 Lx Ly wr vq lq))
  case atStart => exact ⟨0, by omega, by omega, rfl, HI.out⟩
  case round =>
    obtain ⟨k, hk, rfl, rfl, hK⟩ := hrel
    by_cases hkl : k < N
    · obtain ⟨sx, sy, lp, lq, h0, hl, hp, hq⟩ := hK.out
      rcases HP.out k sx sy lp lq hkl h0 with ⟨rfl, rfl, hn⟩ | ⟨p, q, rfl, rfl, hy, hx, hn⟩
      · have HN := Lib.hid (And.intro hn hl)
        obtain ⟨oa, oc, rfl⟩ : ∃ oa oc, u2 = .slice oa 0 oc := by
          obtain ⟨ok, base, hpk, hfr⟩ := hp
          exact hpk.form
        obtain ⟨ob, od, rfl⟩ : ∃ oa oc, u3 = .slice oa 0 oc := by
          obtain ⟨ok, base, hpk, hfr⟩ := hq
          exact hpk.form
        clear hK h0 hl hp hq hn HI
        go_wp2_with fail
        refine wp_loop_rounds 1 ?_
        rw [rounds_succ]
        go_wp2_with fail
        refine wp_loop_rounds 1 ?_
        rw [rounds_succ]
        go_wp2_with fail
        go_roundg (N - (k + 1))
        case measure => omega
        case rel => exact ⟨k + 1, by omega, rfl, by go_num, sx, sy, [], [], HN.out.1, HN.out.2, PkFr2.nil Lx Ly _ HN.out.2, PkFr2.nil Lx Ly _ HN.out.2⟩
      · obtain ⟨okp, basep, hpk, hfp⟩ := hp
        obtain ⟨okq, baseq, hqk, hfq⟩ := hq
        obtain ⟨g, cap, po, rfl, -, hg, hc1, hc2, z0, z1, z2, z3, zo⟩ := hpk.at0
        obtain ⟨g', cap', po', rfl, hgb, hg', hc1', hc2', z0', z1', z2', z3', zo'⟩ := hqk.at0
        have HTY := Lib.hid (hl.symm.Take hy.1 p po hy.2.1 hy.2.2.1 zo (fun b hb => (hfp b (.inl hb)).2) hy.2.2.2.1)
        have HL := Lib.hid (And.intro hl (And.intro hfp hfq))
        have HQ := Lib.hid (And.intro (And.intro z0' (And.intro z1' (And.intro z2' z3'))) (And.intro zo' (And.intro hg' hgb)))
        have HY := Lib.hid hy
        have HX := Lib.hid hx
        have HN := Lib.hid hn
        unfold pkV at HTY
        unfold maxLen at hc2 hc2'
        rw [List.length_nil] at *
        obtain ⟨pc, pi, pl, pd⟩ := p
        dsimp only at z0 z1 z3 HTY
        clear hK h0 hl hpk hqk hfp hfq zo zo' hy hx hn hc1 hc1' z0' z1' z2' z3' hg hg' hgb HI
        go_wp2_with fail
        refine wp_loop_rounds 2 ?_
        rw [rounds_succ]
        go_wp2_with fail
        refine HTY.out.mono ?_
        rintro e w3 ⟨v3, rfl, ⟨K3, e3, row3, opts3⟩, l3, k3⟩
        have hone3 : ∀ p ∈ K3, p.2.oneCell' = true := fun p hp => by obtain ⟨sa, sc, e, _, _⟩ := Opts.form (opts3 p hp); rw [e]; rfl
        have hll3 : ([] : List (Pk × Value)).length + K3.length ≤ 1000000 := by
          have h1 := congrArg List.length e3
          rw [List.length_map] at h1
          simp only [List.length_nil]
          have := HY.out.2.2.2.2
          omega
        have H3 := Lib.hid (And.intro e3 (And.intro row3 (And.intro opts3 (And.intro l3.symm k3))))
        clear e3 row3 opts3 l3 k3
        go_wp2_with (at_builtin; refine wpl_append_pks (B := w3.heap.size) rfl _ _ rfl _ [] rfl (PRow.nil _ _) _ K3 rfl H3.out.2.1 hone3 hll3 (Nat.le_refl _) ?_
                     intro v4 w4 r4 k4 o4
                     have hb4 : Below w3.heap.size w3 w4 := k4.below (Nat.le_refl _) (fun k _ h => by cases h)
                     have H4 := Lib.hid (And.intro r4 hb4)
                     clear r4 k4 o4 hb4)
        rw [rounds_succ]
        go_wp2_with fail
        have hnq : ¬ Ly.t g' := (HL.out.2.2 g' (.inr HQ.out.2.2.2)).2
        have hk4 : Keep Ly.t wr w4 := H3.out.2.2.2.2.trans (Keep.of_below _ H4.out.2)
        have y0 := (hk4.cell (p := ⟨g', 0, none⟩) HQ.out.2.2.1 hnq).trans HQ.out.1.1
        have y1 := (hk4.cell (p := ⟨g', 1, none⟩) HQ.out.2.2.1 hnq).trans HQ.out.1.2.1
        have y2 := (hk4.cell (p := ⟨g', 2, none⟩) HQ.out.2.2.1 hnq).trans HQ.out.1.2.2.1
        have y3 := (hk4.cell (p := ⟨g', 3, none⟩) HQ.out.2.2.1 hnq).trans HQ.out.1.2.2.2
        have zo4 := Rec.keep HQ.out.2.1 hk4 (fun b _ hb ht => (HL.out.2.2 b (.inl hb)).2 ht)
        have hl4 := H3.out.2.2.2.1.below H4.out.2
        have HTX := Lib.hid (hl4.Take HX.out.1 q po' HX.out.2.1 HX.out.2.2.1 zo4 (fun b hb => (HL.out.2.2 b (.inl hb)).1) HX.out.2.2.2.1)
        have H4L := Lib.hid (And.intro hl4 hk4)
        unfold pkV at HTX
        clear hl4 hk4 zo4 hnq
        obtain ⟨qc, qi, ql, qd⟩ := q
        dsimp only at y0 y1 y3 HTX
        refine wp_loop_rounds 2 ?_
        rw [rounds_succ]
        go_wp2_with fail
        refine HTX.out.mono ?_
        rintro e w5 ⟨v5, rfl, ⟨K5, e5, row5, opts5⟩, l5, k5⟩
        have hone5 : ∀ p ∈ K5, p.2.oneCell' = true := fun p hp => by obtain ⟨sa, sc, e, _, _⟩ := Opts.form (opts5 p hp); rw [e]; rfl
        have hll5 : ([] : List (Pk × Value)).length + K5.length ≤ 1000000 := by
          have h1 := congrArg List.length e5
          rw [List.length_map] at h1
          simp only [List.length_nil]
          have := HX.out.2.2.2.2
          omega
        have H5 := Lib.hid (And.intro e5 (And.intro row5 (And.intro opts5 (And.intro l5 k5))))
        clear e5 row5 opts5 l5 k5
        go_wp2_with (at_builtin; refine wpl_append_pks (B := w5.heap.size) rfl _ _ rfl _ [] rfl (PRow.nil _ _) _ K5 rfl H5.out.2.1 hone5 hll5 (Nat.le_refl _) ?_
                     intro v6 w6 r6 k6 o6
                     have hb6 : Below w5.heap.size w5 w6 := k6.below (Nat.le_refl _) (fun k _ h => by cases h)
                     have H6 := Lib.hid (And.intro r6 hb6)
                     clear r6 k6 o6 hb6)
        rw [rounds_succ]
        go_wp2_with fail
        go_roundg (N - (k + 1))
        case measure => omega
        case rel =>
          have hs3 := H3.out.2.2.2.2.size
          have hs5 := H5.out.2.2.2.2.size
          have hs4 := H4.out.2.size
          have nr := fun b (hb : wr.heap.size ≤ b) => show ¬ Lx.t b ∧ ¬ Ly.t b from ⟨fun ht => by have := (HL.out.1.ltx ht).2; omega, fun ht => by have := (HL.out.1.lty ht).2; omega⟩
          have hk46 : Keep Lx.t w4 w6 := H5.out.2.2.2.2.trans (Keep.of_below _ H6.out.2)
          have fu4 : PkFr2 Lx Ly w4 v4 (ltakeS Cy sy ⟨pc, pi, pl, pd⟩).2 := ⟨Grow okp wr, w3.heap.size, ⟨K3, H3.out.1, by have := H4.out.1; rwa [List.nil_append] at this, POpts.keep H3.out.2.2.1 (Keep.of_below (fun _ => False) H4.out.2) (fun _ _ _ h => h)⟩, fun b hb => by
            rcases hb with hb | hb
            · rcases hb with hb | hb
              · exact HL.out.2.1 b (.inl hb)
              · exact nr b hb
            · exact nr b (by omega)⟩
          have fv6 : PkFr2 Lx Ly w6 v6 (ltakeS Cx sx ⟨qc, qi, ql, qd⟩).2 := ⟨Grow okq w4, w5.heap.size, ⟨K5, H5.out.1, by have := H6.out.1; rwa [List.nil_append] at this, POpts.keep H5.out.2.2.1 (Keep.of_below (fun _ => False) H6.out.2) (fun _ _ _ h => h)⟩, fun b hb => by
            rcases hb with hb | hb
            · rcases hb with hb | hb
              · exact HL.out.2.2 b (.inl hb)
              · exact nr b (by omega)
            · exact nr b (by omega)⟩
          exact ⟨k + 1, by omega, rfl, by go_num, _, _, _, _, HN.out, H5.out.2.2.2.1.below H6.out.2, fv6, fu4.keep hk46 (fun b hb => .inl hb)⟩
    · obtain rfl : k = N := by omega
      obtain ⟨sx, sy, lp, lq, h0, hl, -, -⟩ := hK.out
      have HF := Lib.hid (And.intro h0 hl)
      clear hK h0 hl HI
      go_wp2_with fail
      go_end0
      exact ⟨rfl, _, _, _, _, HF.out.1, HF.out.2⟩
end Go.Proofs.YthhdackaopaojaaGreat

/- Two links meet: the plain law. -/
namespace Go.Proofs.YthhdackaopaojaaGreat
open Go.RowKit Go.Tg Go.Maps

def CM (lb : Nat) : NegC := ⟨[unitR 1492, magicR], [], [3], 10, 2, 10, 3, judgeV lb⟩
def stM1 (l : List Opt) : NSt := ⟨6, 9, 1, 1, 0, 0, l, [], [], 0, 0⟩
def stM2 (l r : List Opt) : NSt := ⟨8, 9, 1, 1, 0, 0, l, [], r, 0, 0⟩
def stM3 (l r : List Opt) : NSt := ⟨9, 10, 1, 1, 0, 0, l, l, r, 1, 0⟩
theorem eUpM (lb : Nat) (l : List Opt) (m : Int) (t : TpS) : doL (CM lb) (doL (CM lb) ⟨st0 l, m, 0, 0, 0, t⟩ 2).1 0 = (⟨stM1 l, m, 0, 0, 0, t⟩, [⟨1, 1, l, noB⟩]) := by kernel_rfl
theorem eReqM (lb : Nat) (l r : List Opt) : reqS rejS (CM lb) (stM1 l) ⟨1, 1, r, noB⟩ (2, r) = (stM2 l r, [⟨2, 1, r, noB⟩]) := by kernel_rfl
theorem eAckM (lb : Nat) (l r : List Opt) : evS rejS (CM lb) { stM2 l r with mine := l } 8 ⟨true, ⟨2, 1, l, noB⟩, 0, []⟩ = (stM3 l r, []) := by kernel_rfl

/-- What a config asks for fits the other end. -/
structure AskOk (c : LCfg) : Prop where
  ok : c.Ok
theorem pB4_inj {x y : Int} (hx : 0 ≤ x ∧ x < 4294967296) (hy : 0 ≤ y ∧ y < 4294967296) (h : pB4 x = pB4 y) : x = y := by
  rw [← pB4_val x hx, ← pB4_val y hy, h]
theorem fits2 (m : Int) (h : 64 ≤ m ∧ m ≤ 1492) : fitsR (unitR 65535) (pB2 m) = true := by
  have e : (pB2 m).data.toList.take 7 = (pB2 m).data.toList := rfl
  unfold fitsR
  rw [e, pB2_val m (by omega)]
  have d1 : decide ((unitR 65535).min ≤ m) = true := decide_eq_true (show (64 : Int) ≤ m from h.1)
  have d2 : decide (m ≤ (unitR 65535).max) = true := decide_eq_true (show m ≤ (65535 : Int) by omega)
  have d3 : decide (((pB2 m).size : Int) = (unitR 65535).len) = true := decide_eq_true (show ((2 : Nat) : Int) = 2 from rfl)
  rw [d1, d2, d3]; rfl
theorem fits4 (m : Int) (h1 : 1 ≤ m) (h2 : m < 4294967296) : fitsR magicR (pB4 m) = true := by
  have e : (pB4 m).data.toList.take 7 = (pB4 m).data.toList := rfl
  unfold fitsR
  rw [e, pB4_val m ⟨by omega, h2⟩]
  have d1 : decide (magicR.min ≤ m) = true := decide_eq_true (show (1 : Int) ≤ m from h1)
  have d2 : decide (m ≤ magicR.max) = true := decide_eq_true (show m ≤ (4294967295 : Int) by omega)
  have d3 : decide (((pB4 m).size : Int) = magicR.len) = true := decide_eq_true (show ((4 : Nat) : Int) = 4 from rfl)
  rw [d1, d2, d3]; rfl

section
variable (c : LCfg) (own : Int)
/-- No option loops at an end of another number. -/
theorem noLoop (hc : c.Ok) (ho : own = 0 ∨ (0 ≤ own ∧ own < 4294967296)) (hne : own ≠ c.magic) : (optsS c).any (loopS own) = false := by
  have key : ∀ m : Int, own ≠ m → 0 ≤ m → m < 4294967296 → loopS own ⟨5, pB4 m⟩ = false := by
    intro m h h1 h2
    unfold loopS
    by_cases h0 : own = 0
    · simp [h0]
    · have : ¬ pB4 m = pB4 own := fun he => h (pB4_inj ⟨h1, h2⟩ (by omega) he).symm
      simp [this]
  have k1 : loopS own ⟨1, pB2 c.mru⟩ = false := rfl
  have k3 : loopS own ⟨3, lvalS c.auth⟩ = false := rfl
  have k5 := key c.magic hne hc.magic.1 (by have := hc.magic; omega)
  unfold optsS optsS2 optsS1
  by_cases h1 : c.mru = 1492 <;> by_cases h2 : c.auth = 0 <;> by_cases h3 : c.magic = 0 <;> simp [h1, h2, h3, k1, k3, k5]
theorem fitAll (hc : c.Ok) (ho : own = 0 ∨ (0 ≤ own ∧ own < 4294967296)) (hne : own ≠ c.magic) : ∀ o ∈ optsS c, lfitsS own o = true := by
  intro o hm
  have hl := noLoop c own hc ho hne
  have hlo : loopS own o = false := by
    cases h : loopS own o with
    | false => rfl
    | true => rw [List.any_eq_true.2 ⟨o, hm, h⟩] at hl; cases hl
  have hcase : (o = ⟨1, pB2 c.mru⟩) ∨ (o = ⟨3, lvalS c.auth⟩ ∧ c.auth ≠ 0) ∨ (o = ⟨5, pB4 c.magic⟩ ∧ c.magic ≠ 0) := by
    unfold optsS optsS2 optsS1 at hm
    by_cases h1 : c.mru = 1492 <;> by_cases h2 : c.auth = 0 <;> by_cases h3 : c.magic = 0 <;> simp [h1, h2, h3] at hm ⊢
    all_goals (first | exact hm | (rcases hm with h | h | h <;> simp [h]) | (rcases hm with h | h <;> simp [h]) | simp [hm])
  rcases hcase with rfl | ⟨rfl, h0⟩ | ⟨rfl, h0⟩
  · exact fits2 c.mru hc.mru
  · have e : lfitsS own ⟨3, lvalS c.auth⟩ = decide (protoS [⟨3, lvalS c.auth⟩] ≠ 0) := rfl
    rw [e]
    rcases hc.auth with h | h | h
    · exact absurd h h0
    · rw [h]; decide
    · rw [h]; decide
  · have e : lfitsS own ⟨5, pB4 c.magic⟩ = (fitsR magicR (pB4 c.magic) && !loopS own ⟨5, pB4 c.magic⟩) := rfl
    rw [e, hlo, fits4 c.magic (by have := hc.magic; omega) (by have := hc.magic; omega)]; rfl
theorem rejNone (hc : c.Ok) : rejP lhas [] (optsS c) = [] := by
  unfold optsS optsS2 optsS1
  by_cases h1 : c.mru = 1492 <;> by_cases h2 : c.auth = 0 <;> by_cases h3 : c.magic = 0 <;> simp [h1, h2, h3, rejP, rejOne, lhas]
theorem nakNone (t : TpS) (l : List Opt) (h : ∀ o ∈ l, lfitsS own o = true) : nakQ (lfitsS own) insteadL t l = ([], t) := by
  unfold nakQ
  have : ∀ (l : List Opt) (a : List Opt × TpS), (∀ o ∈ l, lfitsS own o = true) → l.foldl (fun a o => if lfitsS own o then a else (a.1 ++ [⟨o.t, (insteadL a.2 o.t).1⟩], (insteadL a.2 o.t).2)) a = a := by
    intro l
    induction l with
    | nil => intro a _; rfl
    | cons o l ih =>
      intro a h
      rw [List.foldl_cons, if_pos (h o (by simp))]
      exact ih a (fun o' h' => h o' (by simp [h']))
  exact this l _ h
theorem judgeAck (hc : c.Ok) (ho : own = 0 ∨ (0 ≤ own ∧ own < 4294967296)) (hne : own ≠ c.magic) (t : TpS) : ljudgeS own t (optsS c) = ((2, optsS c), t) := by
  unfold ljudgeS answerQ
  rw [rejNone c hc, nakNone own t _ (fitAll c own hc ho hne)]
  rfl
end
end Go.Proofs.YthhdackaopaojaaGreat

/- What was agreed. -/
namespace Go.Proofs.YthhdackaopaojaaGreat
open Go.RowKit Go.Tg Go.Maps

set_option maxHeartbeats 4000000 in
set_option maxRecDepth 100000 in
theorem sameO_any (l : List Opt) (lv lv' : Value) (ok ok' : Nat → Prop) (w : World) (hl : Opts w ok lv l) (hl' : Opts w ok' lv' l) (hm : l.length ≤ 1000000) :
    Calls Tryz.prog 28 #[lv, lv'] w fun e w' => e = .returned (.bool true) ∧ Below w.heap.size w w' := by
  obtain ⟨sa, c, rfl, hc, hcm⟩ := hl.form
  obtain ⟨sb, d, rfl, hd, hdm⟩ := hl'.form
  obtain ⟨len, hln⟩ : ∃ len, len = l.length := ⟨_, rfl⟩
  have HLN := Lib.hid hln
  have H := Lib.hid (And.intro hl hl')
  rw [← hln] at hc hm hd ⊢
  unfold maxLen at hcm hdm
  clear hln hl hl'
  go_enter Tryz.func28, Tryz.ntmps28
  go_wp2_with fail
  go_loopg [5] len (fun x i wr => ∃ k : Nat, k ≤ len ∧ x = len - k ∧ i = .int .i64 k ∧ Hid (Below w.heap.size w wr))
  case atStart => exact ⟨0, by omega, by omega, rfl, Below.refl _ _⟩
  case round =>
    obtain ⟨k, hk, rfl, rfl, hK⟩ := hrel
    have HK := Lib.hid hK.out
    clear hK
    by_cases hkl : k < len
    · have h1 : k < l.length := by have := HLN.out; omega
      obtain ⟨b, off, rfl, hb, -, -, -, -, c0, c1⟩ := H.out.1.at k h1
      obtain ⟨b', off', rfl, hb', -, -, -, -, c0', c1'⟩ := H.out.2.at k h1
      have d0 : wr.cell? ⟨b, off + k * 2, none⟩ = _ := (HK.out.cell (p := ⟨b, off + k * 2, none⟩) hb).trans c0
      have d1 : wr.cell? ⟨b, off + k * 2 + 1, none⟩ = _ := (HK.out.cell (p := ⟨b, off + k * 2 + 1, none⟩) hb).trans c1
      have d2 : wr.cell? ⟨b', off' + k * 2, none⟩ = _ := (HK.out.cell (p := ⟨b', off' + k * 2, none⟩) hb').trans c0'
      have d3 : wr.cell? ⟨b', off' + k * 2 + 1, none⟩ = _ := (HK.out.cell (p := ⟨b', off' + k * 2 + 1, none⟩) hb').trans c1'
      clear c0 c1 c0' c1'
      generalize l[k] = o at *
      obtain ⟨t, v⟩ := o
      dsimp only at d0 d1 d2 d3
      have hn : ∀ w, (binOp .eql 67 (.agg #[.int .i64 t, .string v]) (.agg #[.int .i64 t, .string v])).run Tryz.prog w = .ok (.bool true) w := fun w => by rw [eqO]; simp
      go_wp2_with fail
      go_quiet (fail)
      go_wp2_with fail
      go_roundg (len - (k + 1))
      case measure => omega
      case rel => exact ⟨k + 1, by omega, rfl, by go_num, belowN HK.out _⟩
    · obtain rfl : len = k := by omega
      go_wp2_with fail
      go_ret
      exact ⟨rfl, HK.out⟩

section
variable {w : World} {S ok : Nat → Prop} {L : LB} {C : NegC} {echo : Int} {s : LSt} {X : NegX}
set_option maxHeartbeats 1000000 in
theorem LMine_at (h : LcpAt w S ok L C echo s X) : Calls Tryz.prog 29 #[.pointer (some ⟨L.lb, 0, none⟩)] w fun e w' => ∃ v, e = .returned v ∧ ORow w' w.heap.size v (if s.st.s = 9 then s.st.mine else []) ∧ Below w.heap.size w w' := by
  have h0 : w.cell? ⟨L.lb, 0, none⟩ = some (.pointer (some ⟨L.B.nb, 0, none⟩)) := h.cell 0
  have H := Lib.hid (And.intro (lnone_at h) (Mine_at h.neg))
  generalize (if s.st.s = 9 then s.st.mine else []) = M at H ⊢
  clear h
  go_enter Tryz.func29, Tryz.ntmps29
  go_wp2_with (first
    | (go_at_call 39; refine H.out.1.mono ?_; rintro e w1 ⟨rfl, rfl⟩)
    | (go_at_call 60; refine H.out.2.mono ?_; rintro e w1 ⟨v, rfl, hr, hb⟩; have HR := Lib.hid (And.intro hr hb); clear hr hb))
  go_ret
  exact ⟨_, rfl, HR.out⟩
set_option maxHeartbeats 1000000 in
theorem LTheirs_at (h : LcpAt w S ok L C echo s X) : Calls Tryz.prog 30 #[.pointer (some ⟨L.lb, 0, none⟩)] w fun e w' => ∃ v, e = .returned v ∧ ORow w' w.heap.size v (if s.st.s = 9 then s.st.theirs else []) ∧ Below w.heap.size w w' := by
  have h0 : w.cell? ⟨L.lb, 0, none⟩ = some (.pointer (some ⟨L.B.nb, 0, none⟩)) := h.cell 0
  have H := Lib.hid (And.intro (lnone_at h) (Theirs_at h.neg))
  generalize (if s.st.s = 9 then s.st.theirs else []) = M at H ⊢
  clear h
  go_enter Tryz.func30, Tryz.ntmps30
  go_wp2_with (first
    | (go_at_call 39; refine H.out.1.mono ?_; rintro e w1 ⟨rfl, rfl⟩)
    | (go_at_call 61; refine H.out.2.mono ?_; rintro e w1 ⟨v, rfl, hr, hb⟩; have HR := Lib.hid (And.intro hr hb); clear hr hb))
  go_ret
  exact ⟨_, rfl, HR.out⟩

set_option maxHeartbeats 2000000 in
theorem LAuth_at (h : LcpAt w S ok L C echo s X) (hs : s.st.s = 9) : Calls Tryz.prog 26 #[.pointer (some ⟨L.lb, 0, none⟩)] w fun e w' => e = .returned (.tuple #[.int .i64 (protoS s.st.mine), .int .i64 (protoS s.st.theirs)]) ∧ Below w.heap.size w w' := by
  have H := Lib.hid (And.intro (lnone_at h) (And.intro (LMine_at h) (And.intro h.neg.lm h.neg.lt)))
  rw [if_pos hs] at H
  have HX := Lib.hid (And.intro h hs)
  clear h hs
  go_enter Tryz.func26, Tryz.ntmps26
  go_wp2_with fail
  refine H.out.1.mono ?_
  rintro e _ ⟨rfl, rfl⟩
  go_wp2_with fail
  refine H.out.2.1.mono ?_
  rintro e w1 ⟨v1, rfl, r1, b1⟩
  have HP := Lib.hid (proto_any _ v1 _ w1 (r1.opts (by have := H.out.2.2.1; unfold maxLen; omega)) H.out.2.2.1)
  have HB1 := Lib.hid b1
  clear r1 b1
  go_wp2_with fail
  refine HP.out.mono ?_
  rintro e w2 ⟨rfl, b2⟩
  have hb2 := HB1.out.trans (b2.mono HB1.out.size)
  have HT := Lib.hid (LTheirs_at (HX.out.1.below hb2))
  rw [if_pos HX.out.2] at HT
  have HB2 := Lib.hid hb2
  clear b2 hb2
  go_wp2_with fail
  refine HT.out.mono ?_
  rintro e w3 ⟨v3, rfl, r3, b3⟩
  have HP3 := Lib.hid (proto_any _ v3 _ w3 (r3.opts (by have := H.out.2.2.2; unfold maxLen; omega)) H.out.2.2.2)
  have HB3 := Lib.hid (HB2.out.trans (b3.mono HB2.out.size))
  clear r3 b3
  go_wp2_with fail
  refine HP3.out.mono ?_
  rintro e w4 ⟨rfl, b4⟩
  have HB4 := Lib.hid (HB3.out.trans (b4.mono HB3.out.size))
  clear b4
  go_wp2_with fail
  go_ret2
  exact ⟨rfl, HB4.out⟩

/-- The unit that a list of options says. -/
def mruS (l : List Opt) : Int := match findO l 1 with
  | none => 1492
  | some o => if o.v.size = 2 then valB o.v.data.toList else 1492
set_option maxHeartbeats 2000000 in
theorem LMru_at (h : LcpAt w S ok L C echo s X) (hs : s.st.s = 9) (hf : ∀ o, findO s.st.theirs 1 = some o → o.v.size = 2) : Calls Tryz.prog 27 #[.pointer (some ⟨L.lb, 0, none⟩)] w fun e w' => e = .returned (.int .i64 (mruS s.st.theirs)) ∧ Below w.heap.size w w' := by
  have HN := Lib.hid (lnone_at h)
  have HT := Lib.hid (LTheirs_at h)
  rw [if_pos hs] at HT
  have HLT := Lib.hid h.neg.lt
  have HM : Hid (mruS s.st.theirs = match findO s.st.theirs 1 with
    | none => 1492
    | some o => if o.v.size = 2 then valB o.v.data.toList else 1492) := Lib.hid rfl
  have HFD := Lib.hid (fun W lv okp (hl : Opts W okp lv s.st.theirs) => findO_any s.st.theirs lv okp 1 W hl h.neg.lt)
  generalize mruS s.st.theirs = R at *
  generalize s.st.theirs = l at *
  clear h hs
  cases hq : findO l 1 with
  | none =>
    rw [hq] at HM HFD
    simp only [Option.getD_none, Option.isSome_none] at HFD HM
    clear hq hf
    go_enter Tryz.func27, Tryz.ntmps27
    go_wp2_with (first
      | (go_at_call 39; refine HN.out.mono ?_; rintro e _ ⟨rfl, rfl⟩)
      | (go_at_call 30; refine HT.out.mono ?_; rintro e w1 ⟨v1, rfl, r1, b1⟩; have H1 := Lib.hid (And.intro r1 b1); clear r1 b1)
      | (go_at_call 20; refine (HFD.out _ _ _ (H1.out.1.opts (by have := HLT.out; unfold maxLen; omega))).mono ?_; rintro e w2 ⟨rfl, b2⟩; have H2 := Lib.hid (H1.out.2.trans (b2.mono H1.out.2.size)); clear b2))
    go_ret
    rw [HM.out]
    exact ⟨rfl, H2.out⟩
  | some o =>
    have hsz := hf o hq
    rw [hq] at HM HFD
    simp only [Option.getD_some, Option.isSome_some] at HFD HM
    rw [if_pos hsz] at HM
    have HV := Lib.hid (fun W => value_any o.v W (by omega))
    have e2 : (((o.v.size : Nat) : Int) != 2) = false := by simp [hsz]
    generalize o.v = ov at *
    clear hq hf hsz
    go_enter Tryz.func27, Tryz.ntmps27
    go_wp2_with (first
      | (go_at_call 39; refine HN.out.mono ?_; rintro e _ ⟨rfl, rfl⟩)
      | (go_at_call 30; refine HT.out.mono ?_; rintro e w1 ⟨v1, rfl, r1, b1⟩; have H1 := Lib.hid (And.intro r1 b1); clear r1 b1)
      | (go_at_call 20; refine (HFD.out _ _ _ (H1.out.1.opts (by have := HLT.out; unfold maxLen; omega))).mono ?_; rintro e w2 ⟨rfl, b2⟩; have H2 := Lib.hid (H1.out.2.trans (b2.mono H1.out.2.size)); clear b2)
      | (go_at_call 21; refine (HV.out _).mono ?_; rintro e _ ⟨rfl, rfl⟩))
    go_ret
    rw [HM.out]
    exact ⟨rfl, H2.out⟩
end
end Go.Proofs.YthhdackaopaojaaGreat

/- Two links meet: their orbit. -/
namespace Go.Proofs.YthhdackaopaojaaGreat
open Go.RowKit Go.Tg Go.Maps

theorem syncM (c : LCfg) (hc : c.Ok) (s : LSt) (hr : s.st.req = optsS c) (ho : s.own = c.magic) : s.Sync := by
  intro o hf
  rw [hr, (optsS_find c).2.2] at hf
  by_cases h : c.magic = 0
  · rw [if_pos h] at hf; cases hf
  · rw [if_neg h] at hf
    cases hf
    exact ⟨by show (4 : Nat) ≤ 7; decide, by show valB (pB4 c.magic).data.toList = s.own; rw [pB4_val _ (by have := hc.magic; omega), ho]⟩
theorem sync7 {s : LSt} (h : s.Sync) (r : List Opt) (hr : r = s.st.req) : ∀ o, findO r 5 = some o → o.v.size ≤ 7 := fun o ho => (h o (hr ▸ ho)).1
theorem pkM_ok (c : LCfg) (hc : c.Ok) (code id : Int) : PkOk ⟨code, id, optsS c, noB⟩ := by
  obtain ⟨o1, o2, o3, o4⟩ := optsS_ok c hc.auth
  refine ⟨by show (optsS c).length ≤ 1000000; omega, fun o ho => ?_, fun o ho => Nat.le_trans (o1 o ho) (by decide), by show (0 : Nat) ≤ 100000000; decide⟩
  have hb : ¬ badO o = true := by
    intro hb
    have : (optsS c).any badO = true := List.any_eq_true.2 ⟨o, ho, hb⟩
    unfold putE at o2
    rw [if_neg (by omega), if_pos this] at o2
    cases o2
  unfold badO at hb
  simp at hb
  unfold I64
  simp only [Lit.wf, IntKind.min, IntKind.max, IntKind.signed, IntKind.bits, Bool.and_eq_true, decide_eq_true_eq, if_true]
  have := hb.1
  omega

section
variable (c d : LCfg) (lb : Nat) (t : TpS)
def lsM1 : LSt := ⟨stM1 (optsS c), c.magic, 0, 0, 0, t⟩
def lsM2 : LSt := ⟨stM2 (optsS c) (optsS d), c.magic, 0, 0, 0, t⟩
def lsM3 : LSt := ⟨stM3 (optsS c) (optsS d), c.magic, 0, 0, 0, t⟩
theorem hear1 (hc : c.Ok) (hd : d.Ok) (hne : c.magic ≠ d.magic) : HearOk (CM lb) (lsM1 c t) ⟨1, 1, optsS d, noB⟩ ∧ ltakeS (CM lb) (lsM1 c t) ⟨1, 1, optsS d, noB⟩ = (lsM2 c d t, [⟨2, 1, optsS d, noB⟩]) := by
  have hy : (lsM1 c t).Sync := syncM c hc _ rfl rfl
  have ho : c.magic = 0 ∨ (0 ≤ c.magic ∧ c.magic < 4294967296) := by have := hc.magic; omega
  have hN : ltakeN (CM lb) (lsM1 c t) ⟨1, 1, optsS d, noB⟩ = (lsM2 c d t, [⟨2, 1, optsS d, noB⟩]) := by
    have h := ltakeN_1 (C := CM lb) (s := lsM1 c t) (p := ⟨1, 1, optsS d, noB⟩) rfl
    dsimp only at h
    rw [show (lsM1 c t).own = c.magic from rfl, show (lsM1 c t).t = t from rfl, judgeAck d c.magic hd ho hne t, show (lsM1 c t).st = stM1 (optsS c) from rfl, eReqM] at h
    exact h
  have hT : ltakeS (CM lb) (lsM1 c t) ⟨1, 1, optsS d, noB⟩ = (lsM2 c d t, [⟨2, 1, optsS d, noB⟩]) := by
    have hl : loopedS (lsM1 c t).own ⟨1, 1, optsS d, noB⟩ = false := by
      unfold loopedS
      rw [show (lsM1 c t).own = c.magic from rfl, noLoop d c.magic hd ho hne, Bool.and_false]
    rw [ltakeS_f hl, hN]
    dsimp only
    rw [anewS_id (show (lsM2 c d t).st.ups = (lsM1 c t).st.ups from rfl), syncS_id _ (syncM c hc (lsM2 c d t) rfl rfl)]
  exact ⟨⟨hy, pkM_ok d hd 1 1, by show (1 : Int) ≤ 7; decide, by rw [hN]; exact sync7 hy _ rfl, by rw [hT]; show (1 : Nat) ≤ 1000000; decide⟩, hT⟩
theorem hear2 (hc : c.Ok) : HearOk (CM lb) (lsM2 c d t) ⟨2, 1, optsS c, noB⟩ ∧ ltakeS (CM lb) (lsM2 c d t) ⟨2, 1, optsS c, noB⟩ = (lsM3 c d t, []) := by
  have hy : (lsM2 c d t).Sync := syncM c hc _ rfl rfl
  have hA : takeS (CM lb) (stM2 (optsS c) (optsS d)) ⟨2, 1, optsS c, noB⟩ = (stM3 (optsS c) (optsS d), []) := by
    have e : takeS (CM lb) (stM2 (optsS c) (optsS d)) ⟨2, 1, optsS c, noB⟩ = ackS rejS (CM lb) (stM2 (optsS c) (optsS d)) ⟨2, 1, optsS c, noB⟩ := by
      unfold takeS
      exact (if_neg (show ¬ (2 : Int) = 1 by decide)).trans (if_pos (show (2 : Int) = 2 from rfl))
    rw [e]
    unfold ackS
    exact (if_pos rfl).trans ((if_pos rfl).trans (eAckM lb _ _))
  have hN : ltakeN (CM lb) (lsM2 c d t) ⟨2, 1, optsS c, noB⟩ = (lsM3 c d t, []) := by
    have h := ltakeN_n (C := CM lb) (s := lsM2 c d t) (p := ⟨2, 1, optsS c, noB⟩) (show (2 : Int) ≠ 1 by decide)
    rw [show (lsM2 c d t).st = stM2 (optsS c) (optsS d) from rfl, hA] at h
    exact h
  have hT : ltakeS (CM lb) (lsM2 c d t) ⟨2, 1, optsS c, noB⟩ = (lsM3 c d t, []) := by
    rw [ltakeS_f (show loopedS (lsM2 c d t).own ⟨2, 1, optsS c, noB⟩ = false from rfl), hN]
    dsimp only
    have ha : anewS (lsM2 c d t).st.ups (lsM3 c d t) = lsM3 c d t := by
      unfold anewS
      exact if_neg (show ¬ (1 : Int) = 0 by decide)
    rw [ha, syncS_id _ (syncM c hc (lsM3 c d t) rfl rfl)]
  exact ⟨⟨hy, pkM_ok c hc 2 1, by show (2 : Int) ≤ 7; decide, by rw [hN]; exact sync7 hy _ rfl, by rw [hT]; exact Nat.zero_le _⟩, hT⟩
end
/-- How the two stand, round by round. -/
def PM (a b : LCfg) (t : TpS) (k : Nat) (sx sy : LSt) (lp lq : List Pk) : Prop :=
  (k = 0 ∧ sx = lsM1 a t ∧ sy = lsM1 b t ∧ lp = [⟨1, 1, optsS a, noB⟩] ∧ lq = [⟨1, 1, optsS b, noB⟩]) ∨
  (k = 1 ∧ sx = lsM2 a b t ∧ sy = lsM2 b a t ∧ lp = [⟨2, 1, optsS b, noB⟩] ∧ lq = [⟨2, 1, optsS a, noB⟩]) ∨
  (2 ≤ k ∧ sx = lsM3 a b t ∧ sy = lsM3 b a t ∧ lp = [] ∧ lq = [])
theorem PM.round (a b : LCfg) (lx ly : Nat) (t : TpS) (ha : a.Ok) (hb : b.Ok) (hne : a.magic ≠ b.magic) (k : Nat) (sx sy : LSt) (lp lq : List Pk) (h : PM a b t k sx sy lp lq) : Round (PM a b t) (CM lx) (CM ly) k sx sy lp lq := by
  rcases h with ⟨rfl, rfl, rfl, rfl, rfl⟩ | ⟨rfl, rfl, rfl, rfl, rfl⟩ | ⟨hk, rfl, rfl, rfl, rfl⟩
  · obtain ⟨h1, e1⟩ := hear1 a b lx t ha hb hne
    obtain ⟨h2, e2⟩ := hear1 b a ly t hb ha hne.symm
    exact .inr ⟨_, _, rfl, rfl, h2, h1, by rw [e1, e2]; exact .inr (.inl ⟨rfl, rfl, rfl, rfl, rfl⟩)⟩
  · obtain ⟨h1, e1⟩ := hear2 a b lx t ha
    obtain ⟨h2, e2⟩ := hear2 b a ly t hb
    exact .inr ⟨_, _, rfl, rfl, h2, h1, by rw [e1, e2]; exact .inr (.inr ⟨Nat.le_refl _, rfl, rfl, rfl, rfl⟩)⟩
  · exact .inl ⟨rfl, rfl, .inr (.inr ⟨by omega, rfl, rfl, rfl, rfl⟩)⟩
theorem proto_opts (c : LCfg) (hc : c.Ok) : protoS (optsS c) = c.auth := by
  unfold protoS
  rw [(optsS_find c).2.1]
  rcases hc.auth with h | h | h
  · rw [h]; rfl
  · rw [h]; decide
  · rw [h]; decide
theorem mru_opts (c : LCfg) (hc : c.Ok) : mruS (optsS c) = c.mru ∧ (∀ o, findO (optsS c) 1 = some o → o.v.size = 2) := by
  unfold mruS
  rw [(optsS_find c).1]
  by_cases h : c.mru = 1492
  · rw [if_pos h, h]
    exact ⟨rfl, fun o ho => by cases ho⟩
  · rw [if_neg h]
    refine ⟨?_, fun o ho => by cases ho; rfl⟩
    show (if (pB2 c.mru).size = 2 then valB (pB2 c.mru).data.toList else 1492) = c.mru
    rw [if_pos (show (pB2 c.mru).size = 2 from rfl), pB2_val _ (by have := hc.mru; omega)]
end Go.Proofs.YthhdackaopaojaaGreat

/- Two links meet: the walk. -/
namespace Go.Proofs.YthhdackaopaojaaGreat
open Go.RowKit Go.Tg Go.Maps

def aM (a : LCfg) : LCfg := ⟨a.mru, a.auth, a.magic, a.echo, 10, 2, 10, 3⟩
def bM (b : LCfg) : LCfg := ⟨b.mru, 0, b.magic, b.echo, 10, 2, 10, 3⟩

set_option maxHeartbeats 16000000 in
set_option maxRecDepth 100000 in
theorem meets_ok (a b : LCfg) (hoa : (aM a).Ok) (hob : (bM b).Ok) (hm : a.magic ≠ b.magic) (dl : List Int) (dv : Value) (w : World) (hd : Nums w (fun _ => True) dv dl) (hi : ∀ x ∈ dl, I64 x) (h100 : dl.length ≤ 100) :
    Calls Tryz.prog 7 #[cfgV a, cfgV b, dv] w fun e w' => e = .returned (.bool true) ∧ Below w.heap.size w w' := by
  have q1 : ∀ w a, (binOp .eql 27 (.pointer (some a)) (.pointer none)).run Tryz.prog w = .ok (.bool false) w := fun w a => by kernel_rfl
  have HAL := Lib.hid lalive_any
  obtain ⟨sa, ca, rfl, hca, hcm⟩ := hd.form
  have HD := Lib.hid (And.intro hd hi)
  obtain ⟨len, hln⟩ : ∃ len, len = dl.length := ⟨_, rfl⟩
  have HLN := Lib.hid hln
  have HLL := Lib.hid h100
  have em : (a.magic == b.magic) = false := by simpa using hm
  have e100 : decide ((100 : Int) < (len : Int)) = false := by simp; omega
  rw [← hln] at hca ⊢
  unfold maxLen at hcm
  unfold cfgV
  have HNa := Lib.hid (show ∀ tb okt w3, TapeAt w3 tb okt ⟨dl, 0⟩ → (∀ b, okt b → b < w3.heap.size) → Calls Tryz.prog 12 #[.agg #[.int .i64 a.mru, .int .i64 a.auth, .int .i64 a.magic, .int .i64 a.echo, .int .i64 10, .int .i64 2, .int .i64 10, .int .i64 3], .pointer (some ⟨tb, 0, none⟩)] w3 fun e w' => NewL w3 w' e (aM a) tb okt ⟨dl, 0⟩ from fun tb okt w3 ht ho => lnew_tape (aM a) hoa tb okt ⟨dl, 0⟩ w3 ht ho)
  have HNb := Lib.hid (show ∀ tb okt w3, TapeAt w3 tb okt ⟨dl, 0⟩ → (∀ b, okt b → b < w3.heap.size) → Calls Tryz.prog 12 #[.agg #[.int .i64 b.mru, .int .i64 0, .int .i64 b.magic, .int .i64 b.echo, .int .i64 10, .int .i64 2, .int .i64 10, .int .i64 3], .pointer (some ⟨tb, 0, none⟩)] w3 fun e w' => NewL w3 w' e (bM b) tb okt ⟨dl, 0⟩ from fun tb okt w3 ht ho => lnew_tape (bM b) hob tb okt ⟨dl, 0⟩ w3 ht ho)
  have hla : (optsS (aM a)).length ≤ 3 := (optsS_ok (aM a) hoa.auth).2.2.2
  have hlb : (optsS (bM b)).length ≤ 3 := (optsS_ok (bM b) hob.auth).2.2.2
  clear hd hi hln h100
  go_enter Tryz.func7, Tryz.ntmps7
  go_wp2_with fail
  have hza := at20 w (.cells #[.int .i64 a.mru, .int .i64 a.auth, .int .i64 a.magic, .int .i64 a.echo, .int .i64 10, .int .i64 2, .int .i64 10, .int .i64 3] 24 (0, 0)) (.cells #[.int .i64 b.mru, .int .i64 0, .int .i64 b.magic, .int .i64 b.echo, .int .i64 10, .int .i64 2, .int .i64 10, .int .i64 3] 24 (0, 0))
  have hzb := at21 w (.cells #[.int .i64 a.mru, .int .i64 a.auth, .int .i64 a.magic, .int .i64 a.echo, .int .i64 10, .int .i64 2, .int .i64 10, .int .i64 3] 24 (0, 0)) (.cells #[.int .i64 b.mru, .int .i64 0, .int .i64 b.magic, .int .i64 b.echo, .int .i64 10, .int .i64 2, .int .i64 10, .int .i64 3] 24 (0, 0))
  have hbw := ((Below.refl w.heap.size w).alloc (Nat.le_refl _) (.cells #[.int .i64 a.mru, .int .i64 a.auth, .int .i64 a.magic, .int .i64 a.echo, .int .i64 10, .int .i64 2, .int .i64 10, .int .i64 3] 24 (0, 0))).alloc (by rw [alloc1]; omega) (.cells #[.int .i64 b.mru, .int .i64 0, .int .i64 b.magic, .int .i64 b.echo, .int .i64 10, .int .i64 2, .int .i64 10, .int .i64 3] 24 (0, 0))
  generalize (w.alloc (.cells #[.int .i64 a.mru, .int .i64 a.auth, .int .i64 a.magic, .int .i64 a.echo, .int .i64 10, .int .i64 2, .int .i64 10, .int .i64 3] 24 (0, 0))).alloc (.cells #[.int .i64 b.mru, .int .i64 0, .int .i64 b.magic, .int .i64 b.echo, .int .i64 10, .int .i64 2, .int .i64 10, .int .i64 3] 24 (0, 0)) = W at hza hzb hbw ⊢
  have HZa := Lib.hid hza
  have HZW := Lib.hid hzb
  have HBW := Lib.hid hbw
  have HBa := Lib.hid hbw
  clear hza hzb hbw
  have HSa := Lib.hid (show ∀ Y, Below W.heap.size W Y → (fun Y : World => Y.cell? ⟨w.heap.size, 0, none⟩ = some (.int .i64 a.mru) ∧ Y.cell? ⟨w.heap.size, 1, none⟩ = some (.int .i64 a.auth) ∧ Y.cell? ⟨w.heap.size, 2, none⟩ = some (.int .i64 a.magic) ∧ Y.cell? ⟨w.heap.size, 3, none⟩ = some (.int .i64 a.echo) ∧ Y.cell? ⟨w.heap.size, 4, none⟩ = some (.int .i64 10) ∧ Y.cell? ⟨w.heap.size, 5, none⟩ = some (.int .i64 2) ∧ Y.cell? ⟨w.heap.size, 6, none⟩ = some (.int .i64 10) ∧ Y.cell? ⟨w.heap.size, 7, none⟩ = some (.int .i64 3)) Y from fun Y hY => by
    have h := (hY.block w.heap.size (lt_of_heap' HZa.out)).trans HZa.out
    exact ⟨cellOf h 0 _ rfl, cellOf h 1 _ rfl, cellOf h 2 _ rfl, cellOf h 3 _ rfl, cellOf h 4 _ rfl, cellOf h 5 _ rfl, cellOf h 6 _ rfl, cellOf h 7 _ rfl⟩)
  have HTNa := Lib.hid (tapeNew_any dl _ _ W.drew (Nums.below HD.out.1 HBa.out.drew) HD.out.2 (by have := HLL.out; omega))
  rw [← HLN.out] at HTNa
  refine wp_region_H (rgH 0 9) (fun Y : World => Y.cell? ⟨w.heap.size, 0, none⟩ = some (.int .i64 a.mru) ∧ Y.cell? ⟨w.heap.size, 1, none⟩ = some (.int .i64 a.auth) ∧ Y.cell? ⟨w.heap.size, 2, none⟩ = some (.int .i64 a.magic) ∧ Y.cell? ⟨w.heap.size, 3, none⟩ = some (.int .i64 a.echo) ∧ Y.cell? ⟨w.heap.size, 4, none⟩ = some (.int .i64 10) ∧ Y.cell? ⟨w.heap.size, 5, none⟩ = some (.int .i64 2) ∧ Y.cell? ⟨w.heap.size, 6, none⟩ = some (.int .i64 10) ∧ Y.cell? ⟨w.heap.size, 7, none⟩ = some (.int .i64 3)) (by kernel_rfl) ?_
  have HSv : (fun Y : World => Y.cell? ⟨w.heap.size, 0, none⟩ = some (.int .i64 a.mru) ∧ Y.cell? ⟨w.heap.size, 1, none⟩ = some (.int .i64 a.auth) ∧ Y.cell? ⟨w.heap.size, 2, none⟩ = some (.int .i64 a.magic) ∧ Y.cell? ⟨w.heap.size, 3, none⟩ = some (.int .i64 a.echo) ∧ Y.cell? ⟨w.heap.size, 4, none⟩ = some (.int .i64 10) ∧ Y.cell? ⟨w.heap.size, 5, none⟩ = some (.int .i64 2) ∧ Y.cell? ⟨w.heap.size, 6, none⟩ = some (.int .i64 10) ∧ Y.cell? ⟨w.heap.size, 7, none⟩ = some (.int .i64 3)) W.drew := HSa.out _ (Below.refl _ _).drew
  refine wpAnyH_at 0 (v := ?vv555) rfl (by kernel_rfl) (by kernel_rfl) (by kernel_rfl) (fun _ _ _ h => h) ?hy555 HSv ?hh555
  case hy555 =>
    refine Or.inl ⟨by rfl, ?_⟩
    intro W hW
    obtain ⟨h0, h1, h2, h3, h4, h5, h6, h7⟩ := hW
    go_simp
    try with_reducible rfl
  simp only [Act.put, List.setIfInBounds_toArray, List.set_cons_zero, List.set_cons_succ]
  refine wpAnyH_at 1 (v := ?vv556) rfl (by kernel_rfl) (by kernel_rfl) (by kernel_rfl) (fun _ _ _ h => h) ?hy556 HSv ?hh556
  case hy556 =>
    refine Or.inl ⟨by rfl, ?_⟩
    intro W hW
    obtain ⟨h0, h1, h2, h3, h4, h5, h6, h7⟩ := hW
    go_simp
    try with_reducible rfl
  simp only [Act.put, List.setIfInBounds_toArray, List.set_cons_zero, List.set_cons_succ]
  refine wpAnyH_1 2 rfl (by kernel_rfl) ?_
  intro K hK
  rw [if_pos (by rfl)]
  try go_simp
  go_at_call 13
  refine HTNa.out.mono ?_
  rintro e wat ⟨tba, rfl, ta, sa, bta⟩
  have HBta := Lib.hid (show Below W.heap.size W wat from Below.trans (Below.refl _ _).drew bta)
  have HTa := Lib.hid (And.intro ta sa)
  have HSv : (fun Y : World => Y.cell? ⟨w.heap.size, 0, none⟩ = some (.int .i64 a.mru) ∧ Y.cell? ⟨w.heap.size, 1, none⟩ = some (.int .i64 a.auth) ∧ Y.cell? ⟨w.heap.size, 2, none⟩ = some (.int .i64 a.magic) ∧ Y.cell? ⟨w.heap.size, 3, none⟩ = some (.int .i64 a.echo) ∧ Y.cell? ⟨w.heap.size, 4, none⟩ = some (.int .i64 10) ∧ Y.cell? ⟨w.heap.size, 5, none⟩ = some (.int .i64 2) ∧ Y.cell? ⟨w.heap.size, 6, none⟩ = some (.int .i64 10) ∧ Y.cell? ⟨w.heap.size, 7, none⟩ = some (.int .i64 3)) wat := HSa.out _ HBta.out
  clear ta sa bta
  refine hK _ _ (fun _ => HSv) ?_
  try simp only [Act.put, List.setIfInBounds_toArray, List.set_cons_zero, List.set_cons_succ]
  refine wpAnyH_1 3 rfl (by kernel_rfl) ?_
  intro K hK
  rw [if_pos (by rfl)]
  try go_simp
  go_at_call 12
  refine (HNa.out tba _ wat HTa.out.1 (fun b hb => by have := HTa.out.1.lt; omega)).mono ?_
  rintro e wa hma
  obtain ⟨La, rfl, ka⟩ := LK.made (w0 := W) hma HBta.out (fun b hb => hb.1) HTa.out.2
  have HKa := Lib.hid ka
  have hba : Below W.heap.size W wa := ka.b
  clear hma ka
  have HSv : (fun Y : World => Y.cell? ⟨w.heap.size, 0, none⟩ = some (.int .i64 a.mru) ∧ Y.cell? ⟨w.heap.size, 1, none⟩ = some (.int .i64 a.auth) ∧ Y.cell? ⟨w.heap.size, 2, none⟩ = some (.int .i64 a.magic) ∧ Y.cell? ⟨w.heap.size, 3, none⟩ = some (.int .i64 a.echo) ∧ Y.cell? ⟨w.heap.size, 4, none⟩ = some (.int .i64 10) ∧ Y.cell? ⟨w.heap.size, 5, none⟩ = some (.int .i64 2) ∧ Y.cell? ⟨w.heap.size, 6, none⟩ = some (.int .i64 10) ∧ Y.cell? ⟨w.heap.size, 7, none⟩ = some (.int .i64 3)) wa := HSa.out _ hba
  have HEa := Lib.hid hba
  clear hba
  refine hK _ _ (fun _ => HSv) ?_
  try simp only [Act.put, List.setIfInBounds_toArray, List.set_cons_zero, List.set_cons_succ]
  refine wpAnyH_at 4 (v := ?vv557) rfl (by kernel_rfl) (by kernel_rfl) (by kernel_rfl) (fun _ _ _ h => h) ?hy557 HSv ?hh557
  case hy557 =>
    refine Or.inl ⟨by rfl, ?_⟩
    intro W hW
    obtain ⟨h0, h1, h2, h3, h4, h5, h6, h7⟩ := hW
    go_simp
    try with_reducible rfl
  simp only [Act.put, List.setIfInBounds_toArray, List.set_cons_zero, List.set_cons_succ]
  refine wpAnyH_at 5 (v := ?vv558) rfl (by kernel_rfl) (by kernel_rfl) (by kernel_rfl) (fun _ _ _ h => h) ?hy558 HSv ?hh558
  case hy558 =>
    refine Or.inl ⟨by rfl, ?_⟩
    intro W hW
    obtain ⟨h0, h1, h2, h3, h4, h5, h6, h7⟩ := hW
    go_simp
    try with_reducible rfl
  simp only [Act.put, List.setIfInBounds_toArray, List.set_cons_zero, List.set_cons_succ]
  refine wpAnyH_at 7 (v := ?vv559) rfl (by kernel_rfl) (by kernel_rfl) (by kernel_rfl) (fun _ _ _ h => h) ?hy559 HSv ?hh559
  case hy559 =>
    refine Or.inl ⟨by rfl, ?_⟩
    intro W hW
    obtain ⟨h0, h1, h2, h3, h4, h5, h6, h7⟩ := hW
    go_simp
    try with_reducible rfl
  simp only [Act.put, List.setIfInBounds_toArray, List.set_cons_zero, List.set_cons_succ]
  refine wpAnyH_at 6 (v := ?vv560) rfl (by kernel_rfl) (by kernel_rfl) (by kernel_rfl) (fun _ _ _ h => h) ?hy560 HSv ?hh560
  case hy560 =>
    refine Or.inl ⟨by rfl, ?_⟩
    intro W hW
    obtain ⟨h0, h1, h2, h3, h4, h5, h6, h7⟩ := hW
    go_simp
    try with_reducible rfl
  simp only [Act.put, List.setIfInBounds_toArray, List.set_cons_zero, List.set_cons_succ]
  refine wpAnyH_at 8 (v := ?vv561) rfl (by kernel_rfl) (by kernel_rfl) (by kernel_rfl) (fun _ _ _ h => h) ?hy561 HSv ?hh561
  case hy561 =>
    refine Or.inl ⟨by rfl, ?_⟩
    intro W hW
    obtain ⟨h0, h1, h2, h3, h4, h5, h6, h7⟩ := hW
    go_simp
    try with_reducible rfl
  simp only [Act.put, List.setIfInBounds_toArray, List.set_cons_zero, List.set_cons_succ]
  refine wpAnyH_end 9 (fun j hj => rgH_end _ _ j (by omega)) (by rfl) (by kernel_rfl) ?_
  simp only [List.drop_succ_cons, List.drop_zero]
  clear HSv HTNa HSa HBta HTa
  have HZb := Lib.hid ((HEa.out.block (w.heap.size + 1) (lt_of_heap' HZW.out)).trans HZW.out)
  have HBb := Lib.hid (HBW.out.trans (HEa.out.mono HBW.out.size))
  go_wp2_with fail
  have HSb := Lib.hid (show ∀ Y, Below wa.heap.size wa Y → (fun Y : World => Y.cell? ⟨(w.heap.size + 1), 0, none⟩ = some (.int .i64 b.mru) ∧ Y.cell? ⟨(w.heap.size + 1), 1, none⟩ = some (.int .i64 0) ∧ Y.cell? ⟨(w.heap.size + 1), 2, none⟩ = some (.int .i64 b.magic) ∧ Y.cell? ⟨(w.heap.size + 1), 3, none⟩ = some (.int .i64 b.echo) ∧ Y.cell? ⟨(w.heap.size + 1), 4, none⟩ = some (.int .i64 10) ∧ Y.cell? ⟨(w.heap.size + 1), 5, none⟩ = some (.int .i64 2) ∧ Y.cell? ⟨(w.heap.size + 1), 6, none⟩ = some (.int .i64 10) ∧ Y.cell? ⟨(w.heap.size + 1), 7, none⟩ = some (.int .i64 3)) Y from fun Y hY => by
    have h := (hY.block (w.heap.size + 1) (lt_of_heap' HZb.out)).trans HZb.out
    exact ⟨cellOf h 0 _ rfl, cellOf h 1 _ rfl, cellOf h 2 _ rfl, cellOf h 3 _ rfl, cellOf h 4 _ rfl, cellOf h 5 _ rfl, cellOf h 6 _ rfl, cellOf h 7 _ rfl⟩)
  have HTNb := Lib.hid (tapeNew_any dl _ _ wa.drew (Nums.below HD.out.1 HBb.out.drew) HD.out.2 (by have := HLL.out; omega))
  rw [← HLN.out] at HTNb
  refine wp_region_H (rgH 0 9) (fun Y : World => Y.cell? ⟨(w.heap.size + 1), 0, none⟩ = some (.int .i64 b.mru) ∧ Y.cell? ⟨(w.heap.size + 1), 1, none⟩ = some (.int .i64 0) ∧ Y.cell? ⟨(w.heap.size + 1), 2, none⟩ = some (.int .i64 b.magic) ∧ Y.cell? ⟨(w.heap.size + 1), 3, none⟩ = some (.int .i64 b.echo) ∧ Y.cell? ⟨(w.heap.size + 1), 4, none⟩ = some (.int .i64 10) ∧ Y.cell? ⟨(w.heap.size + 1), 5, none⟩ = some (.int .i64 2) ∧ Y.cell? ⟨(w.heap.size + 1), 6, none⟩ = some (.int .i64 10) ∧ Y.cell? ⟨(w.heap.size + 1), 7, none⟩ = some (.int .i64 3)) (by kernel_rfl) ?_
  have HSv : (fun Y : World => Y.cell? ⟨(w.heap.size + 1), 0, none⟩ = some (.int .i64 b.mru) ∧ Y.cell? ⟨(w.heap.size + 1), 1, none⟩ = some (.int .i64 0) ∧ Y.cell? ⟨(w.heap.size + 1), 2, none⟩ = some (.int .i64 b.magic) ∧ Y.cell? ⟨(w.heap.size + 1), 3, none⟩ = some (.int .i64 b.echo) ∧ Y.cell? ⟨(w.heap.size + 1), 4, none⟩ = some (.int .i64 10) ∧ Y.cell? ⟨(w.heap.size + 1), 5, none⟩ = some (.int .i64 2) ∧ Y.cell? ⟨(w.heap.size + 1), 6, none⟩ = some (.int .i64 10) ∧ Y.cell? ⟨(w.heap.size + 1), 7, none⟩ = some (.int .i64 3)) wa.drew := HSb.out _ (Below.refl _ _).drew
  refine wpAnyH_at 0 (v := ?vv562) rfl (by kernel_rfl) (by kernel_rfl) (by kernel_rfl) (fun _ _ _ h => h) ?hy562 HSv ?hh562
  case hy562 =>
    refine Or.inl ⟨by rfl, ?_⟩
    intro W hW
    obtain ⟨h0, h1, h2, h3, h4, h5, h6, h7⟩ := hW
    go_simp
    try with_reducible rfl
  simp only [Act.put, List.setIfInBounds_toArray, List.set_cons_zero, List.set_cons_succ]
  refine wpAnyH_at 1 (v := ?vv563) rfl (by kernel_rfl) (by kernel_rfl) (by kernel_rfl) (fun _ _ _ h => h) ?hy563 HSv ?hh563
  case hy563 =>
    refine Or.inl ⟨by rfl, ?_⟩
    intro W hW
    obtain ⟨h0, h1, h2, h3, h4, h5, h6, h7⟩ := hW
    go_simp
    try with_reducible rfl
  simp only [Act.put, List.setIfInBounds_toArray, List.set_cons_zero, List.set_cons_succ]
  refine wpAnyH_1 2 rfl (by kernel_rfl) ?_
  intro K hK
  rw [if_pos (by rfl)]
  try go_simp
  go_at_call 13
  refine HTNb.out.mono ?_
  rintro e wbt ⟨tbb, rfl, tb, sb, btb⟩
  have HBtb := Lib.hid (show Below wa.heap.size wa wbt from Below.trans (Below.refl _ _).drew btb)
  have HTb := Lib.hid (And.intro tb sb)
  have HSv : (fun Y : World => Y.cell? ⟨(w.heap.size + 1), 0, none⟩ = some (.int .i64 b.mru) ∧ Y.cell? ⟨(w.heap.size + 1), 1, none⟩ = some (.int .i64 0) ∧ Y.cell? ⟨(w.heap.size + 1), 2, none⟩ = some (.int .i64 b.magic) ∧ Y.cell? ⟨(w.heap.size + 1), 3, none⟩ = some (.int .i64 b.echo) ∧ Y.cell? ⟨(w.heap.size + 1), 4, none⟩ = some (.int .i64 10) ∧ Y.cell? ⟨(w.heap.size + 1), 5, none⟩ = some (.int .i64 2) ∧ Y.cell? ⟨(w.heap.size + 1), 6, none⟩ = some (.int .i64 10) ∧ Y.cell? ⟨(w.heap.size + 1), 7, none⟩ = some (.int .i64 3)) wbt := HSb.out _ HBtb.out
  clear tb sb btb
  refine hK _ _ (fun _ => HSv) ?_
  try simp only [Act.put, List.setIfInBounds_toArray, List.set_cons_zero, List.set_cons_succ]
  refine wpAnyH_1 3 rfl (by kernel_rfl) ?_
  intro K hK
  rw [if_pos (by rfl)]
  try go_simp
  go_at_call 12
  refine (HNb.out tbb _ wbt HTb.out.1 (fun b hb => by have := HTb.out.1.lt; omega)).mono ?_
  rintro e wb hmb
  obtain ⟨Lb, rfl, kb⟩ := LK.made (w0 := wa) hmb HBtb.out (fun b hb => hb.1) HTb.out.2
  have HKb := Lib.hid kb
  have hbb : Below wa.heap.size wa wb := kb.b
  clear hmb kb
  have HSv : (fun Y : World => Y.cell? ⟨(w.heap.size + 1), 0, none⟩ = some (.int .i64 b.mru) ∧ Y.cell? ⟨(w.heap.size + 1), 1, none⟩ = some (.int .i64 0) ∧ Y.cell? ⟨(w.heap.size + 1), 2, none⟩ = some (.int .i64 b.magic) ∧ Y.cell? ⟨(w.heap.size + 1), 3, none⟩ = some (.int .i64 b.echo) ∧ Y.cell? ⟨(w.heap.size + 1), 4, none⟩ = some (.int .i64 10) ∧ Y.cell? ⟨(w.heap.size + 1), 5, none⟩ = some (.int .i64 2) ∧ Y.cell? ⟨(w.heap.size + 1), 6, none⟩ = some (.int .i64 10) ∧ Y.cell? ⟨(w.heap.size + 1), 7, none⟩ = some (.int .i64 3)) wb := HSb.out _ hbb
  have HEb := Lib.hid hbb
  clear hbb
  refine hK _ _ (fun _ => HSv) ?_
  try simp only [Act.put, List.setIfInBounds_toArray, List.set_cons_zero, List.set_cons_succ]
  refine wpAnyH_at 4 (v := ?vv564) rfl (by kernel_rfl) (by kernel_rfl) (by kernel_rfl) (fun _ _ _ h => h) ?hy564 HSv ?hh564
  case hy564 =>
    refine Or.inl ⟨by rfl, ?_⟩
    intro W hW
    obtain ⟨h0, h1, h2, h3, h4, h5, h6, h7⟩ := hW
    go_simp
    try with_reducible rfl
  simp only [Act.put, List.setIfInBounds_toArray, List.set_cons_zero, List.set_cons_succ]
  refine wpAnyH_at 5 (v := ?vv565) rfl (by kernel_rfl) (by kernel_rfl) (by kernel_rfl) (fun _ _ _ h => h) ?hy565 HSv ?hh565
  case hy565 =>
    refine Or.inl ⟨by rfl, ?_⟩
    intro W hW
    obtain ⟨h0, h1, h2, h3, h4, h5, h6, h7⟩ := hW
    go_simp
    try with_reducible rfl
  simp only [Act.put, List.setIfInBounds_toArray, List.set_cons_zero, List.set_cons_succ]
  refine wpAnyH_at 7 (v := ?vv566) rfl (by kernel_rfl) (by kernel_rfl) (by kernel_rfl) (fun _ _ _ h => h) ?hy566 HSv ?hh566
  case hy566 =>
    refine Or.inl ⟨by rfl, ?_⟩
    intro W hW
    obtain ⟨h0, h1, h2, h3, h4, h5, h6, h7⟩ := hW
    go_simp
    try with_reducible rfl
  simp only [Act.put, List.setIfInBounds_toArray, List.set_cons_zero, List.set_cons_succ]
  refine wpAnyH_at 6 (v := ?vv567) rfl (by kernel_rfl) (by kernel_rfl) (by kernel_rfl) (fun _ _ _ h => h) ?hy567 HSv ?hh567
  case hy567 =>
    refine Or.inl ⟨by rfl, ?_⟩
    intro W hW
    obtain ⟨h0, h1, h2, h3, h4, h5, h6, h7⟩ := hW
    go_simp
    try with_reducible rfl
  simp only [Act.put, List.setIfInBounds_toArray, List.set_cons_zero, List.set_cons_succ]
  refine wpAnyH_at 8 (v := ?vv568) rfl (by kernel_rfl) (by kernel_rfl) (by kernel_rfl) (fun _ _ _ h => h) ?hy568 HSv ?hh568
  case hy568 =>
    refine Or.inl ⟨by rfl, ?_⟩
    intro W hW
    obtain ⟨h0, h1, h2, h3, h4, h5, h6, h7⟩ := hW
    go_simp
    try with_reducible rfl
  simp only [Act.put, List.setIfInBounds_toArray, List.set_cons_zero, List.set_cons_succ]
  refine wpAnyH_end 9 (fun j hj => rgH_end _ _ j (by omega)) (by rfl) (by kernel_rfl) ?_
  simp only [List.drop_succ_cons, List.drop_zero]
  clear HSv HTNb HSb HBtb HTb
  have HBF := Lib.hid (HBb.out.trans (HEb.out.mono HBb.out.size))
  have HLL0 := Lib.hid (show L2 W wb La Lb (CM La.lb) (CM Lb.lb) a.echo b.echo (lst0 (aM a) ⟨dl, 0⟩) (lst0 (bM b) ⟨dl, 0⟩) from L2.made HKa.out HKb.out)
  clear HNa HNb HKa HKb
  have HD1 := Lib.hid (HLL0.out.Do 2 (by decide))
  go_wp2_with fail
  refine HD1.out.mono ?_
  rintro e w3 ⟨v3, rfl, -, l3, -⟩
  have HD2 := Lib.hid (l3.symm.Do 2 (by decide))
  clear l3
  go_wp2_with fail
  refine HD2.out.mono ?_
  rintro e w4 ⟨v4, rfl, -, l4, -⟩
  have HD3 := Lib.hid (l4.symm.Do 0 (by decide))
  rw [show doL (CM La.lb) (doL (CM La.lb) (lst0 (aM a) ⟨dl, 0⟩) 2).1 0 = (lsM1 (aM a) ⟨dl, 0⟩, [⟨1, 1, optsS (aM a), noB⟩]) from eUpM La.lb (optsS (aM a)) a.magic ⟨dl, 0⟩] at HD3
  have HL4 := Lib.hid l4
  clear l4
  go_wp2_with fail
  refine HD3.out.mono ?_
  rintro e w5 ⟨v5, rfl, p5, l5, -⟩
  have hf5 : PkFr2 La Lb w5 v5 [⟨1, 1, optsS (aM a), noB⟩] := ⟨_, _, p5, fun c hc => by
    have hx := fun (ht : La.t c) => (HL4.out.lty ht).2
    have hy := fun (ht : Lb.t c) => (HL4.out.ltx ht).2
    rcases hc with hc | hc
    · rcases hc with hc | hc
      · exact hc.elim
      · exact ⟨fun ht => by have := hx ht; omega, fun ht => by have := hy ht; omega⟩
    · exact ⟨fun ht => by have := hx ht; omega, fun ht => by have := hy ht; omega⟩⟩
  have HD4 := Lib.hid (l5.symm.Do 0 (by decide))
  rw [show doL (CM Lb.lb) (doL (CM Lb.lb) (lst0 (bM b) ⟨dl, 0⟩) 2).1 0 = (lsM1 (bM b) ⟨dl, 0⟩, [⟨1, 1, optsS (bM b), noB⟩]) from eUpM Lb.lb (optsS (bM b)) b.magic ⟨dl, 0⟩] at HD4
  have HL5 := Lib.hid (And.intro l5 hf5)
  obtain ⟨pa5, pc5, rfl⟩ := p5.form
  clear p5 l5 hf5
  go_wp2_with fail
  refine HD4.out.mono ?_
  rintro e w6 ⟨v6, rfl, p6, l6, k6⟩
  have hf6 : PkFr2 La Lb w6 v6 [⟨1, 1, optsS (bM b), noB⟩] := ⟨_, _, p6, fun c hc => by
    have hx := fun (ht : La.t c) => (HL5.out.1.ltx ht).2
    have hy := fun (ht : Lb.t c) => (HL5.out.1.lty ht).2
    rcases hc with hc | hc
    · rcases hc with hc | hc
      · exact hc.elim
      · exact ⟨fun ht => by have := hx ht; omega, fun ht => by have := hy ht; omega⟩
    · exact ⟨fun ht => by have := hx ht; omega, fun ht => by have := hy ht; omega⟩⟩
  have HX := Lib.hid (exchange_any (PM (aM a) (bM b) ⟨dl, 0⟩) 8 (by decide) (fun k sx sy lp lq _ h => PM.round (aM a) (bM b) La.lb Lb.lb ⟨dl, 0⟩ hoa hob hm k sx sy lp lq h) (.inl ⟨rfl, rfl, rfl, rfl, rfl⟩) l6.symm (HL5.out.2.keep k6 (fun b hb => .inr hb)) hf6)
  rw [show ((8 : Nat) : Int) = 8 from rfl] at HX
  obtain ⟨pa6, pc6, rfl⟩ := p6.form
  clear p6 l6 k6 hf6 HD1 HD2 HD3 HD4
  go_wp2_with fail
  refine HX.out.mono ?_
  rintro e w7 ⟨rfl, sx', sy', lp', lq', hP, l7⟩
  obtain ⟨rfl, rfl⟩ : sx' = lsM3 (aM a) (bM b) ⟨dl, 0⟩ ∧ sy' = lsM3 (bM b) (aM a) ⟨dl, 0⟩ := by
    rcases hP with ⟨h, -⟩ | ⟨h, -⟩ | ⟨-, h1, h2, -⟩
    · omega
    · omega
    · exact ⟨h1, h2⟩
  have HL7 := Lib.hid l7
  clear l7 hP HX
  go_wp2_with fail
  obtain ⟨S, ok, X, hv⟩ := HL7.out.x
  refine (LAuth_at hv rfl).mono ?_
  rintro e u00 ⟨rfl, b00⟩
  have HL70 := Lib.hid (HL7.out.below b00)
  clear hv b00
  rw [show protoS (lsM3 (aM a) (bM b) ⟨dl, 0⟩).st.mine = a.auth from proto_opts (aM a) hoa, show protoS (lsM3 (aM a) (bM b) ⟨dl, 0⟩).st.theirs = 0 from proto_opts (bM b) hob]
  go_wp2_with fail
  obtain ⟨S, ok, X, hv⟩ := HL70.out.y
  refine (LAuth_at hv rfl).mono ?_
  rintro e u0 ⟨rfl, b0⟩
  have HL8 := Lib.hid (HL70.out.below b0)
  clear hv b0
  rw [show protoS (lsM3 (bM b) (aM a) ⟨dl, 0⟩).st.mine = 0 from proto_opts (bM b) hob, show protoS (lsM3 (bM b) (aM a) ⟨dl, 0⟩).st.theirs = a.auth from proto_opts (aM a) hoa]
  have HSF := Lib.hid (show ∀ Y, Below W.heap.size W Y → (fun Y : World => Y.cell? ⟨w.heap.size, 0, none⟩ = some (.int .i64 a.mru) ∧ Y.cell? ⟨w.heap.size, 1, none⟩ = some (.int .i64 a.auth) ∧ Y.cell? ⟨w.heap.size + 1, 0, none⟩ = some (.int .i64 b.mru)) Y from fun Y hY => by
    have h1 := (hY.block w.heap.size (lt_of_heap' HZa.out)).trans HZa.out
    have h2 := (hY.block (w.heap.size + 1) (lt_of_heap' HZW.out)).trans HZW.out
    exact ⟨cellOf h1 0 _ rfl, cellOf h1 1 _ rfl, cellOf h2 0 _ rfl⟩)
  go_wp2_with fail
  refine wp_region_H (rgH 0 59) (fun Y : World => Y.cell? ⟨w.heap.size, 0, none⟩ = some (.int .i64 a.mru) ∧ Y.cell? ⟨w.heap.size, 1, none⟩ = some (.int .i64 a.auth) ∧ Y.cell? ⟨w.heap.size + 1, 0, none⟩ = some (.int .i64 b.mru)) (by kernel_rfl) ?_
  refine wpAnyH_1 0 rfl (by kernel_rfl) ?_
  intro K hK
  rw [if_pos (by rfl)]
  try go_simp
  go_at_call 11
  refine (HAL.out u0.drew).mono ?_
  rintro e u1 ⟨rfl, b1⟩
  have HQ := Lib.hid (HL8.out.below (show Below u0.heap.size u0 u1 from Below.trans (Below.refl _ _).drew b1))
  have HSv : (fun Y : World => Y.cell? ⟨w.heap.size, 0, none⟩ = some (.int .i64 a.mru) ∧ Y.cell? ⟨w.heap.size, 1, none⟩ = some (.int .i64 a.auth) ∧ Y.cell? ⟨w.heap.size + 1, 0, none⟩ = some (.int .i64 b.mru)) u1 := HSF.out _ HQ.out.bel
  clear b1
  refine hK _ _ (fun _ => HSv) ?_
  try simp only [Act.put, List.setIfInBounds_toArray, List.set_cons_zero, List.set_cons_succ]
  refine wpAnyH_at 1 (v := ?vv569) rfl (by kernel_rfl) (by kernel_rfl) (by kernel_rfl) (fun _ _ _ h => h) ?hy569 HSv ?hh569
  case hy569 =>
    refine Or.inl ⟨by rfl, ?_⟩
    intro W hW
    obtain ⟨h0, h1, h2⟩ := hW
    go_simp
    try with_reducible rfl
  simp only [Act.put, List.setIfInBounds_toArray, List.set_cons_zero, List.set_cons_succ]
  refine wpAnyH_at 2 (v := ?vv570) rfl (by kernel_rfl) (by kernel_rfl) (by kernel_rfl) (fun _ _ _ h => h) ?hy570 HSv ?hh570
  case hy570 =>
    refine Or.inl ⟨by rfl, ?_⟩
    intro W hW
    obtain ⟨h0, h1, h2⟩ := hW
    go_simp
    try with_reducible rfl
  simp only [Act.put, List.setIfInBounds_toArray, List.set_cons_zero, List.set_cons_succ]
  refine wpAnyH_1 3 rfl (by kernel_rfl) ?_
  intro K hK
  rw [if_pos (by rfl)]
  try go_simp
  go_at_call 16
  obtain ⟨S, ok, X, hv⟩ := HQ.out.x
  refine (LState_at hv).mono ?_
  rintro e _ ⟨rfl, rfl⟩
  clear hv
  refine hK _ _ (fun _ => HSv) ?_
  try simp only [Act.put, List.setIfInBounds_toArray, List.set_cons_zero, List.set_cons_succ]
  refine wpAnyH_at 4 (v := ?vv571) rfl (by kernel_rfl) (by kernel_rfl) (by kernel_rfl) (fun _ _ _ h => h) ?hy571 HSv ?hh571
  case hy571 =>
    refine Or.inl ⟨by rfl, ?_⟩
    intro W hW
    obtain ⟨h0, h1, h2⟩ := hW
    go_simp
    try with_reducible rfl
  simp only [Act.put, List.setIfInBounds_toArray, List.set_cons_zero, List.set_cons_succ]
  refine wpAnyH_at 5 (v := ?vv572) rfl (by kernel_rfl) (by kernel_rfl) (by kernel_rfl) (fun _ _ _ h => h) ?hy572 HSv ?hh572
  case hy572 =>
    refine Or.inl ⟨by rfl, ?_⟩
    intro W hW
    obtain ⟨h0, h1, h2⟩ := hW
    go_simp
    try with_reducible rfl
  simp only [Act.put, List.setIfInBounds_toArray, List.set_cons_zero, List.set_cons_succ]
  refine wpAnyH_at 6 (v := ?vv573) rfl (by kernel_rfl) (by kernel_rfl) (by kernel_rfl) (fun _ _ _ h => h) ?hy573 HSv ?hh573
  case hy573 =>
    refine Or.inl ⟨by rfl, ?_⟩
    intro W hW
    obtain ⟨h0, h1, h2⟩ := hW
    go_simp
    try with_reducible rfl
  simp only [Act.put, List.setIfInBounds_toArray, List.set_cons_zero, List.set_cons_succ]
  refine wpAnyH_at 7 (v := ?vv574) rfl (by kernel_rfl) (by kernel_rfl) (by kernel_rfl) (fun _ _ _ h => h) ?hy574 HSv ?hh574
  case hy574 =>
    refine Or.inl ⟨by rfl, ?_⟩
    intro W hW
    obtain ⟨h0, h1, h2⟩ := hW
    go_simp
    try with_reducible rfl
  simp only [Act.put, List.setIfInBounds_toArray, List.set_cons_zero, List.set_cons_succ]
  refine wpAnyH_1 8 rfl (by kernel_rfl) ?_
  intro K hK
  rw [if_pos (by rfl)]
  try go_simp
  go_at_call 16
  obtain ⟨S, ok, X, hv⟩ := HQ.out.y
  refine (LState_at hv).mono ?_
  rintro e _ ⟨rfl, rfl⟩
  clear hv
  refine hK _ _ (fun _ => HSv) ?_
  try simp only [Act.put, List.setIfInBounds_toArray, List.set_cons_zero, List.set_cons_succ]
  refine wpAnyH_at 9 (v := ?vv575) rfl (by kernel_rfl) (by kernel_rfl) (by kernel_rfl) (fun _ _ _ h => h) ?hy575 HSv ?hh575
  case hy575 =>
    refine Or.inl ⟨by rfl, ?_⟩
    intro W hW
    obtain ⟨h0, h1, h2⟩ := hW
    go_simp
    try with_reducible rfl
  simp only [Act.put, List.setIfInBounds_toArray, List.set_cons_zero, List.set_cons_succ]
  refine wpAnyH_at 10 (v := ?vv576) rfl (by kernel_rfl) (by kernel_rfl) (by kernel_rfl) (fun _ _ _ h => h) ?hy576 HSv ?hh576
  case hy576 =>
    refine Or.inl ⟨by rfl, ?_⟩
    intro W hW
    obtain ⟨h0, h1, h2⟩ := hW
    go_simp
    try with_reducible rfl
  simp only [Act.put, List.setIfInBounds_toArray, List.set_cons_zero, List.set_cons_succ]
  refine wpAnyH_at 11 (v := ?vv577) rfl (by kernel_rfl) (by kernel_rfl) (by kernel_rfl) (fun _ _ _ h => h) ?hy577 HSv ?hh577
  case hy577 =>
    refine Or.inl ⟨by rfl, ?_⟩
    intro W hW
    obtain ⟨h0, h1, h2⟩ := hW
    go_simp
    try with_reducible rfl
  simp only [Act.put, List.setIfInBounds_toArray, List.set_cons_zero, List.set_cons_succ]
  refine wpAnyH_at 12 (v := ?vv578) rfl (by kernel_rfl) (by kernel_rfl) (by kernel_rfl) (fun _ _ _ h => h) ?hy578 HSv ?hh578
  case hy578 =>
    refine Or.inl ⟨by rfl, ?_⟩
    intro W hW
    obtain ⟨h0, h1, h2⟩ := hW
    go_simp
    try with_reducible rfl
  simp only [Act.put, List.setIfInBounds_toArray, List.set_cons_zero, List.set_cons_succ]
  refine wpAnyH_at 13 (v := ?vv579) rfl (by kernel_rfl) (by kernel_rfl) (by kernel_rfl) (fun _ _ _ h => h) ?hy579 HSv ?hh579
  case hy579 =>
    refine Or.inl ⟨by rfl, ?_⟩
    intro W hW
    obtain ⟨h0, h1, h2⟩ := hW
    go_simp
    try with_reducible rfl
  simp only [Act.put, List.setIfInBounds_toArray, List.set_cons_zero, List.set_cons_succ]
  refine wpAnyH_at 14 (v := ?vv580) rfl (by kernel_rfl) (by kernel_rfl) (by kernel_rfl) (fun _ _ _ h => h) ?hy580 HSv ?hh580
  case hy580 =>
    refine Or.inl ⟨by rfl, ?_⟩
    intro W hW
    obtain ⟨h0, h1, h2⟩ := hW
    go_simp
    try with_reducible rfl
  simp only [Act.put, List.setIfInBounds_toArray, List.set_cons_zero, List.set_cons_succ]
  refine wpAnyH_at 15 (v := ?vv581) rfl (by kernel_rfl) (by kernel_rfl) (by kernel_rfl) (fun _ _ _ h => h) ?hy581 HSv ?hh581
  case hy581 =>
    refine Or.inl ⟨by rfl, ?_⟩
    intro W hW
    obtain ⟨h0, h1, h2⟩ := hW
    go_simp
    try with_reducible rfl
  simp only [Act.put, List.setIfInBounds_toArray, List.set_cons_zero, List.set_cons_succ]
  refine wpAnyH_at 16 (v := ?vv582) rfl (by kernel_rfl) (by kernel_rfl) (by kernel_rfl) (fun _ _ _ h => h) ?hy582 HSv ?hh582
  case hy582 =>
    refine Or.inl ⟨by rfl, ?_⟩
    intro W hW
    obtain ⟨h0, h1, h2⟩ := hW
    go_simp
    try with_reducible rfl
  simp only [Act.put, List.setIfInBounds_toArray, List.set_cons_zero, List.set_cons_succ]
  refine wpAnyH_at 17 (v := ?vv583) rfl (by kernel_rfl) (by kernel_rfl) (by kernel_rfl) (fun _ _ _ h => h) ?hy583 HSv ?hh583
  case hy583 =>
    refine Or.inl ⟨by rfl, ?_⟩
    intro W hW
    obtain ⟨h0, h1, h2⟩ := hW
    go_simp
    try with_reducible rfl
  simp only [Act.put, List.setIfInBounds_toArray, List.set_cons_zero, List.set_cons_succ]
  refine wpAnyH_at 18 (v := ?vv584) rfl (by kernel_rfl) (by kernel_rfl) (by kernel_rfl) (fun _ _ _ h => h) ?hy584 HSv ?hh584
  case hy584 =>
    refine Or.inl ⟨by rfl, ?_⟩
    intro W hW
    obtain ⟨h0, h1, h2⟩ := hW
    go_simp
    try with_reducible rfl
  simp only [Act.put, List.setIfInBounds_toArray, List.set_cons_zero, List.set_cons_succ]
  refine wpAnyH_at 19 (v := ?vv585) rfl (by kernel_rfl) (by kernel_rfl) (by kernel_rfl) (fun _ _ _ h => h) ?hy585 HSv ?hh585
  case hy585 =>
    refine Or.inl ⟨by rfl, ?_⟩
    intro W hW
    obtain ⟨h0, h1, h2⟩ := hW
    go_simp
    try with_reducible rfl
  simp only [Act.put, List.setIfInBounds_toArray, List.set_cons_zero, List.set_cons_succ]
  refine wpAnyH_at 20 (v := ?vv586) rfl (by kernel_rfl) (by kernel_rfl) (by kernel_rfl) (fun _ _ _ h => h) ?hy586 HSv ?hh586
  case hy586 =>
    refine Or.inl ⟨by rfl, ?_⟩
    intro W hW
    obtain ⟨h0, h1, h2⟩ := hW
    go_simp
    try with_reducible rfl
  simp only [Act.put, List.setIfInBounds_toArray, List.set_cons_zero, List.set_cons_succ]
  refine wpAnyH_at 21 (v := ?vv587) rfl (by kernel_rfl) (by kernel_rfl) (by kernel_rfl) (fun _ _ _ h => h) ?hy587 HSv ?hh587
  case hy587 =>
    refine Or.inl ⟨by rfl, ?_⟩
    intro W hW
    obtain ⟨h0, h1, h2⟩ := hW
    go_simp
    try with_reducible rfl
  simp only [Act.put, List.setIfInBounds_toArray, List.set_cons_zero, List.set_cons_succ]
  refine wpAnyH_at 22 (v := ?vv588) rfl (by kernel_rfl) (by kernel_rfl) (by kernel_rfl) (fun _ _ _ h => h) ?hy588 HSv ?hh588
  case hy588 =>
    refine Or.inl ⟨by rfl, ?_⟩
    intro W hW
    obtain ⟨h0, h1, h2⟩ := hW
    go_simp
    try with_reducible rfl
  simp only [Act.put, List.setIfInBounds_toArray, List.set_cons_zero, List.set_cons_succ]
  refine wpAnyH_at 23 (v := ?vv589) rfl (by kernel_rfl) (by kernel_rfl) (by kernel_rfl) (fun _ _ _ h => h) ?hy589 HSv ?hh589
  case hy589 =>
    refine Or.inl ⟨by rfl, ?_⟩
    intro W hW
    obtain ⟨h0, h1, h2⟩ := hW
    go_simp
    try with_reducible rfl
  simp only [Act.put, List.setIfInBounds_toArray, List.set_cons_zero, List.set_cons_succ]
  refine wpAnyH_at 24 (v := ?vv590) rfl (by kernel_rfl) (by kernel_rfl) (by kernel_rfl) (fun _ _ _ h => h) ?hy590 HSv ?hh590
  case hy590 =>
    refine Or.inl ⟨by rfl, ?_⟩
    intro W hW
    obtain ⟨h0, h1, h2⟩ := hW
    go_simp
    try with_reducible rfl
  simp only [Act.put, List.setIfInBounds_toArray, List.set_cons_zero, List.set_cons_succ]
  refine wpAnyH_at 25 (v := ?vv591) rfl (by kernel_rfl) (by kernel_rfl) (by kernel_rfl) (fun _ _ _ h => h) ?hy591 HSv ?hh591
  case hy591 =>
    refine Or.inl ⟨by rfl, ?_⟩
    intro W hW
    obtain ⟨h0, h1, h2⟩ := hW
    go_simp
    try with_reducible rfl
  simp only [Act.put, List.setIfInBounds_toArray, List.set_cons_zero, List.set_cons_succ]
  refine wpAnyH_at 26 (v := ?vv592) rfl (by kernel_rfl) (by kernel_rfl) (by kernel_rfl) (fun _ _ _ h => h) ?hy592 HSv ?hh592
  case hy592 =>
    refine Or.inl ⟨by rfl, ?_⟩
    intro W hW
    obtain ⟨h0, h1, h2⟩ := hW
    go_simp
    try with_reducible rfl
  simp only [Act.put, List.setIfInBounds_toArray, List.set_cons_zero, List.set_cons_succ]
  refine wpAnyH_at 27 (v := ?vv593) rfl (by kernel_rfl) (by kernel_rfl) (by kernel_rfl) (fun _ _ _ h => h) ?hy593 HSv ?hh593
  case hy593 =>
    refine Or.inl ⟨by rfl, ?_⟩
    intro W hW
    obtain ⟨h0, h1, h2⟩ := hW
    go_simp
    try with_reducible rfl
  simp only [Act.put, List.setIfInBounds_toArray, List.set_cons_zero, List.set_cons_succ]
  refine wpAnyH_at 28 (v := ?vv594) rfl (by kernel_rfl) (by kernel_rfl) (by kernel_rfl) (fun _ _ _ h => h) ?hy594 HSv ?hh594
  case hy594 =>
    refine Or.inl ⟨by rfl, ?_⟩
    intro W hW
    obtain ⟨h0, h1, h2⟩ := hW
    go_simp
    try with_reducible rfl
  simp only [Act.put, List.setIfInBounds_toArray, List.set_cons_zero, List.set_cons_succ]
  refine wpAnyH_at 29 (v := ?vv595) rfl (by kernel_rfl) (by kernel_rfl) (by kernel_rfl) (fun _ _ _ h => h) ?hy595 HSv ?hh595
  case hy595 =>
    refine Or.inl ⟨by rfl, ?_⟩
    intro W hW
    obtain ⟨h0, h1, h2⟩ := hW
    go_simp
    try with_reducible rfl
  simp only [Act.put, List.setIfInBounds_toArray, List.set_cons_zero, List.set_cons_succ]
  refine wpAnyH_at 30 (v := ?vv596) rfl (by kernel_rfl) (by kernel_rfl) (by kernel_rfl) (fun _ _ _ h => h) ?hy596 HSv ?hh596
  case hy596 =>
    refine Or.inl ⟨by rfl, ?_⟩
    intro W hW
    obtain ⟨h0, h1, h2⟩ := hW
    go_simp
    try with_reducible rfl
  simp only [Act.put, List.setIfInBounds_toArray, List.set_cons_zero, List.set_cons_succ]
  refine wpAnyH_at 31 (v := ?vv597) rfl (by kernel_rfl) (by kernel_rfl) (by kernel_rfl) (fun _ _ _ h => h) ?hy597 HSv ?hh597
  case hy597 =>
    refine Or.inl ⟨by rfl, ?_⟩
    intro W hW
    obtain ⟨h0, h1, h2⟩ := hW
    go_simp
    try with_reducible rfl
  simp only [Act.put, List.setIfInBounds_toArray, List.set_cons_zero, List.set_cons_succ]
  refine wpAnyH_at 32 (v := ?vv598) rfl (by kernel_rfl) (by kernel_rfl) (by kernel_rfl) (fun _ _ _ h => h) ?hy598 HSv ?hh598
  case hy598 =>
    refine Or.inl ⟨by rfl, ?_⟩
    intro W hW
    obtain ⟨h0, h1, h2⟩ := hW
    go_simp
    try with_reducible rfl
  simp only [Act.put, List.setIfInBounds_toArray, List.set_cons_zero, List.set_cons_succ]
  refine wpAnyH_at 34 (v := ?vv599) rfl (by kernel_rfl) (by kernel_rfl) (by kernel_rfl) (fun _ _ _ h => h) ?hy599 HSv ?hh599
  case hy599 =>
    refine Or.inl ⟨by rfl, ?_⟩
    intro W hW
    obtain ⟨h0, h1, h2⟩ := hW
    go_simp
    try with_reducible rfl
  simp only [Act.put, List.setIfInBounds_toArray, List.set_cons_zero, List.set_cons_succ]
  refine wpAnyH_at 35 (v := ?vv600) rfl (by kernel_rfl) (by kernel_rfl) (by kernel_rfl) (fun _ _ _ h => h) ?hy600 HSv ?hh600
  case hy600 =>
    refine Or.inl ⟨by rfl, ?_⟩
    intro W hW
    obtain ⟨h0, h1, h2⟩ := hW
    go_simp
    try with_reducible rfl
  simp only [Act.put, List.setIfInBounds_toArray, List.set_cons_zero, List.set_cons_succ]
  refine wpAnyH_1 33 rfl (by kernel_rfl) ?_
  intro K hK
  rw [if_pos (by rfl)]
  try go_simp
  go_at_call 27
  obtain ⟨S, ok, X, hv⟩ := HQ.out.y
  refine (LMru_at hv rfl (mru_opts (aM a) hoa).2).mono ?_
  rintro e u2 ⟨rfl, b2⟩
  have HQ := Lib.hid (HQ.out.below b2)
  have HSv : (fun Y : World => Y.cell? ⟨w.heap.size, 0, none⟩ = some (.int .i64 a.mru) ∧ Y.cell? ⟨w.heap.size, 1, none⟩ = some (.int .i64 a.auth) ∧ Y.cell? ⟨w.heap.size + 1, 0, none⟩ = some (.int .i64 b.mru)) u2 := HSF.out _ HQ.out.bel
  clear hv b2
  rw [show mruS (lsM3 (bM b) (aM a) ⟨dl, 0⟩).st.theirs = a.mru from (mru_opts (aM a) hoa).1]
  refine hK _ _ (fun _ => HSv) ?_
  try simp only [Act.put, List.setIfInBounds_toArray, List.set_cons_zero, List.set_cons_succ]
  refine wpAnyH_at 36 (v := ?vv601) rfl (by kernel_rfl) (by kernel_rfl) (by kernel_rfl) (fun _ _ _ h => h) ?hy601 HSv ?hh601
  case hy601 =>
    refine Or.inl ⟨by rfl, ?_⟩
    intro W hW
    obtain ⟨h0, h1, h2⟩ := hW
    go_simp
    try with_reducible rfl
  simp only [Act.put, List.setIfInBounds_toArray, List.set_cons_zero, List.set_cons_succ]
  refine wpAnyH_at 37 (v := ?vv602) rfl (by kernel_rfl) (by kernel_rfl) (by kernel_rfl) (fun _ _ _ h => h) ?hy602 HSv ?hh602
  case hy602 =>
    refine Or.inl ⟨by rfl, ?_⟩
    intro W hW
    obtain ⟨h0, h1, h2⟩ := hW
    go_simp
    try with_reducible rfl
  simp only [Act.put, List.setIfInBounds_toArray, List.set_cons_zero, List.set_cons_succ]
  refine wpAnyH_at 38 (v := ?vv603) rfl (by kernel_rfl) (by kernel_rfl) (by kernel_rfl) (fun _ _ _ h => h) ?hy603 HSv ?hh603
  case hy603 =>
    refine Or.inl ⟨by rfl, ?_⟩
    intro W hW
    obtain ⟨h0, h1, h2⟩ := hW
    go_simp
    try with_reducible rfl
  simp only [Act.put, List.setIfInBounds_toArray, List.set_cons_zero, List.set_cons_succ]
  refine wpAnyH_at 39 (v := ?vv604) rfl (by kernel_rfl) (by kernel_rfl) (by kernel_rfl) (fun _ _ _ h => h) ?hy604 HSv ?hh604
  case hy604 =>
    refine Or.inl ⟨by rfl, ?_⟩
    intro W hW
    obtain ⟨h0, h1, h2⟩ := hW
    go_simp
    try with_reducible rfl
  simp only [Act.put, List.setIfInBounds_toArray, List.set_cons_zero, List.set_cons_succ]
  refine wpAnyH_at 41 (v := ?vv605) rfl (by kernel_rfl) (by kernel_rfl) (by kernel_rfl) (fun _ _ _ h => h) ?hy605 HSv ?hh605
  case hy605 =>
    refine Or.inl ⟨by rfl, ?_⟩
    intro W hW
    obtain ⟨h0, h1, h2⟩ := hW
    go_simp
    try with_reducible rfl
  simp only [Act.put, List.setIfInBounds_toArray, List.set_cons_zero, List.set_cons_succ]
  refine wpAnyH_at 42 (v := ?vv606) rfl (by kernel_rfl) (by kernel_rfl) (by kernel_rfl) (fun _ _ _ h => h) ?hy606 HSv ?hh606
  case hy606 =>
    refine Or.inl ⟨by rfl, ?_⟩
    intro W hW
    obtain ⟨h0, h1, h2⟩ := hW
    go_simp
    try with_reducible rfl
  simp only [Act.put, List.setIfInBounds_toArray, List.set_cons_zero, List.set_cons_succ]
  refine wpAnyH_1 40 rfl (by kernel_rfl) ?_
  intro K hK
  rw [if_pos (by rfl)]
  try go_simp
  go_at_call 27
  obtain ⟨S, ok, X, hv⟩ := HQ.out.x
  refine (LMru_at hv rfl (mru_opts (bM b) hob).2).mono ?_
  rintro e u3 ⟨rfl, b3⟩
  have HQ := Lib.hid (HQ.out.below b3)
  have HSv : (fun Y : World => Y.cell? ⟨w.heap.size, 0, none⟩ = some (.int .i64 a.mru) ∧ Y.cell? ⟨w.heap.size, 1, none⟩ = some (.int .i64 a.auth) ∧ Y.cell? ⟨w.heap.size + 1, 0, none⟩ = some (.int .i64 b.mru)) u3 := HSF.out _ HQ.out.bel
  clear hv b3
  rw [show mruS (lsM3 (aM a) (bM b) ⟨dl, 0⟩).st.theirs = b.mru from (mru_opts (bM b) hob).1]
  refine hK _ _ (fun _ => HSv) ?_
  try simp only [Act.put, List.setIfInBounds_toArray, List.set_cons_zero, List.set_cons_succ]
  refine wpAnyH_at 43 (v := ?vv607) rfl (by kernel_rfl) (by kernel_rfl) (by kernel_rfl) (fun _ _ _ h => h) ?hy607 HSv ?hh607
  case hy607 =>
    refine Or.inl ⟨by rfl, ?_⟩
    intro W hW
    obtain ⟨h0, h1, h2⟩ := hW
    go_simp
    try with_reducible rfl
  simp only [Act.put, List.setIfInBounds_toArray, List.set_cons_zero, List.set_cons_succ]
  refine wpAnyH_at 44 (v := ?vv608) rfl (by kernel_rfl) (by kernel_rfl) (by kernel_rfl) (fun _ _ _ h => h) ?hy608 HSv ?hh608
  case hy608 =>
    refine Or.inl ⟨by rfl, ?_⟩
    intro W hW
    obtain ⟨h0, h1, h2⟩ := hW
    go_simp
    try with_reducible rfl
  simp only [Act.put, List.setIfInBounds_toArray, List.set_cons_zero, List.set_cons_succ]
  refine wpAnyH_at 45 (v := ?vv609) rfl (by kernel_rfl) (by kernel_rfl) (by kernel_rfl) (fun _ _ _ h => h) ?hy609 HSv ?hh609
  case hy609 =>
    refine Or.inl ⟨by rfl, ?_⟩
    intro W hW
    obtain ⟨h0, h1, h2⟩ := hW
    go_simp
    try with_reducible rfl
  simp only [Act.put, List.setIfInBounds_toArray, List.set_cons_zero, List.set_cons_succ]
  refine wpAnyH_at 46 (v := ?vv610) rfl (by kernel_rfl) (by kernel_rfl) (by kernel_rfl) (fun _ _ _ h => h) ?hy610 HSv ?hh610
  case hy610 =>
    refine Or.inl ⟨by rfl, ?_⟩
    intro W hW
    obtain ⟨h0, h1, h2⟩ := hW
    go_simp
    try with_reducible rfl
  simp only [Act.put, List.setIfInBounds_toArray, List.set_cons_zero, List.set_cons_succ]
  refine wpAnyH_at 48 (v := ?vv611) rfl (by kernel_rfl) (by kernel_rfl) (by kernel_rfl) (fun _ _ _ h => h) ?hy611 HSv ?hh611
  case hy611 =>
    refine Or.inl ⟨by rfl, ?_⟩
    intro W hW
    obtain ⟨h0, h1, h2⟩ := hW
    go_simp
    try with_reducible rfl
  simp only [Act.put, List.setIfInBounds_toArray, List.set_cons_zero, List.set_cons_succ]
  refine wpAnyH_1 47 rfl (by kernel_rfl) ?_
  intro K hK
  rw [if_pos (by rfl)]
  try go_simp
  go_at_call 29
  obtain ⟨S, ok, X, hv⟩ := HQ.out.x
  refine (LMine_at hv).mono ?_
  rintro e u4 ⟨v4, rfl, r4, b4⟩
  have r4 : ORow u4 u3.heap.size v4 (optsS (aM a)) := r4
  obtain ⟨a4, c4, rfl⟩ := r4.form
  have HQ := Lib.hid (HQ.out.below b4)
  have HSv : (fun Y : World => Y.cell? ⟨w.heap.size, 0, none⟩ = some (.int .i64 a.mru) ∧ Y.cell? ⟨w.heap.size, 1, none⟩ = some (.int .i64 a.auth) ∧ Y.cell? ⟨w.heap.size + 1, 0, none⟩ = some (.int .i64 b.mru)) u4 := HSF.out _ HQ.out.bel
  have HR4 := Lib.hid r4
  clear hv b4 r4
  refine hK _ _ (fun _ => HSv) ?_
  try simp only [Act.put, List.setIfInBounds_toArray, List.set_cons_zero, List.set_cons_succ]
  refine wpAnyH_1 49 rfl (by kernel_rfl) ?_
  intro K hK
  rw [if_pos (by rfl)]
  try go_simp
  go_at_call 30
  obtain ⟨S, ok, X, hv⟩ := HQ.out.y
  refine (LTheirs_at hv).mono ?_
  rintro e u5 ⟨v5, rfl, r5, b5⟩
  have r5 : ORow u5 u4.heap.size v5 (optsS (aM a)) := r5
  obtain ⟨a5, c5, rfl⟩ := r5.form
  have HQ := Lib.hid (HQ.out.below b5)
  have HSv : (fun Y : World => Y.cell? ⟨w.heap.size, 0, none⟩ = some (.int .i64 a.mru) ∧ Y.cell? ⟨w.heap.size, 1, none⟩ = some (.int .i64 a.auth) ∧ Y.cell? ⟨w.heap.size + 1, 0, none⟩ = some (.int .i64 b.mru)) u5 := HSF.out _ HQ.out.bel
  have HSA := Lib.hid (sameO_any (optsS (aM a)) _ _ _ _ u5 ((HR4.out.below b5).opts (by have := hla; unfold maxLen; omega)) (r5.opts (by have := hla; unfold maxLen; omega)) (by omega))
  clear hv b5 r5
  refine hK _ _ (fun _ => HSv) ?_
  try simp only [Act.put, List.setIfInBounds_toArray, List.set_cons_zero, List.set_cons_succ]
  refine wpAnyH_1 50 rfl (by kernel_rfl) ?_
  intro K hK
  rw [if_pos (by rfl)]
  try go_simp
  go_at_call 28
  refine HSA.out.mono ?_
  rintro e u6 ⟨rfl, b6⟩
  have HQ := Lib.hid (HQ.out.below b6)
  have HSv : (fun Y : World => Y.cell? ⟨w.heap.size, 0, none⟩ = some (.int .i64 a.mru) ∧ Y.cell? ⟨w.heap.size, 1, none⟩ = some (.int .i64 a.auth) ∧ Y.cell? ⟨w.heap.size + 1, 0, none⟩ = some (.int .i64 b.mru)) u6 := HSF.out _ HQ.out.bel
  clear b6
  refine hK _ _ (fun _ => HSv) ?_
  try simp only [Act.put, List.setIfInBounds_toArray, List.set_cons_zero, List.set_cons_succ]
  refine wpAnyH_at 51 (v := ?vv612) rfl (by kernel_rfl) (by kernel_rfl) (by kernel_rfl) (fun _ _ _ h => h) ?hy612 HSv ?hh612
  case hy612 =>
    refine Or.inl ⟨by rfl, ?_⟩
    intro W hW
    obtain ⟨h0, h1, h2⟩ := hW
    go_simp
    try with_reducible rfl
  simp only [Act.put, List.setIfInBounds_toArray, List.set_cons_zero, List.set_cons_succ]
  refine wpAnyH_at 52 (v := ?vv613) rfl (by kernel_rfl) (by kernel_rfl) (by kernel_rfl) (fun _ _ _ h => h) ?hy613 HSv ?hh613
  case hy613 =>
    refine Or.inl ⟨by rfl, ?_⟩
    intro W hW
    obtain ⟨h0, h1, h2⟩ := hW
    go_simp
    try with_reducible rfl
  simp only [Act.put, List.setIfInBounds_toArray, List.set_cons_zero, List.set_cons_succ]
  refine wpAnyH_at 53 (v := ?vv614) rfl (by kernel_rfl) (by kernel_rfl) (by kernel_rfl) (fun _ _ _ h => h) ?hy614 HSv ?hh614
  case hy614 =>
    refine Or.inl ⟨by rfl, ?_⟩
    intro W hW
    obtain ⟨h0, h1, h2⟩ := hW
    go_simp
    try with_reducible rfl
  simp only [Act.put, List.setIfInBounds_toArray, List.set_cons_zero, List.set_cons_succ]
  refine wpAnyH_at 55 (v := ?vv615) rfl (by kernel_rfl) (by kernel_rfl) (by kernel_rfl) (fun _ _ _ h => h) ?hy615 HSv ?hh615
  case hy615 =>
    refine Or.inl ⟨by rfl, ?_⟩
    intro W hW
    obtain ⟨h0, h1, h2⟩ := hW
    go_simp
    try with_reducible rfl
  simp only [Act.put, List.setIfInBounds_toArray, List.set_cons_zero, List.set_cons_succ]
  refine wpAnyH_1 54 rfl (by kernel_rfl) ?_
  intro K hK
  rw [if_pos (by rfl)]
  try go_simp
  go_at_call 29
  obtain ⟨S, ok, X, hv⟩ := HQ.out.y
  refine (LMine_at hv).mono ?_
  rintro e u7 ⟨v7, rfl, r7, b7⟩
  have r7 : ORow u7 u6.heap.size v7 (optsS (bM b)) := r7
  obtain ⟨a7, c7, rfl⟩ := r7.form
  have HQ := Lib.hid (HQ.out.below b7)
  have HSv : (fun Y : World => Y.cell? ⟨w.heap.size, 0, none⟩ = some (.int .i64 a.mru) ∧ Y.cell? ⟨w.heap.size, 1, none⟩ = some (.int .i64 a.auth) ∧ Y.cell? ⟨w.heap.size + 1, 0, none⟩ = some (.int .i64 b.mru)) u7 := HSF.out _ HQ.out.bel
  have HR7 := Lib.hid r7
  clear hv b7 r7
  refine hK _ _ (fun _ => HSv) ?_
  try simp only [Act.put, List.setIfInBounds_toArray, List.set_cons_zero, List.set_cons_succ]
  refine wpAnyH_1 56 rfl (by kernel_rfl) ?_
  intro K hK
  rw [if_pos (by rfl)]
  try go_simp
  go_at_call 30
  obtain ⟨S, ok, X, hv⟩ := HQ.out.x
  refine (LTheirs_at hv).mono ?_
  rintro e u8 ⟨v8, rfl, r8, b8⟩
  have r8 : ORow u8 u7.heap.size v8 (optsS (bM b)) := r8
  obtain ⟨a8, c8, rfl⟩ := r8.form
  have HQ := Lib.hid (HQ.out.below b8)
  have HSv : (fun Y : World => Y.cell? ⟨w.heap.size, 0, none⟩ = some (.int .i64 a.mru) ∧ Y.cell? ⟨w.heap.size, 1, none⟩ = some (.int .i64 a.auth) ∧ Y.cell? ⟨w.heap.size + 1, 0, none⟩ = some (.int .i64 b.mru)) u8 := HSF.out _ HQ.out.bel
  have HSB := Lib.hid (sameO_any (optsS (bM b)) _ _ _ _ u8 ((HR7.out.below b8).opts (by have := hlb; unfold maxLen; omega)) (r8.opts (by have := hlb; unfold maxLen; omega)) (by omega))
  clear hv b8 r8
  refine hK _ _ (fun _ => HSv) ?_
  try simp only [Act.put, List.setIfInBounds_toArray, List.set_cons_zero, List.set_cons_succ]
  refine wpAnyH_1 57 rfl (by kernel_rfl) ?_
  intro K hK
  rw [if_pos (by rfl)]
  try go_simp
  go_at_call 28
  refine HSB.out.mono ?_
  rintro e u9 ⟨rfl, b9⟩
  have HQ := Lib.hid (HQ.out.below b9)
  have HSv : (fun Y : World => Y.cell? ⟨w.heap.size, 0, none⟩ = some (.int .i64 a.mru) ∧ Y.cell? ⟨w.heap.size, 1, none⟩ = some (.int .i64 a.auth) ∧ Y.cell? ⟨w.heap.size + 1, 0, none⟩ = some (.int .i64 b.mru)) u9 := HSF.out _ HQ.out.bel
  clear b9
  refine hK _ _ (fun _ => HSv) ?_
  try simp only [Act.put, List.setIfInBounds_toArray, List.set_cons_zero, List.set_cons_succ]
  refine wpAnyH_at 58 (v := ?vv616) rfl (by kernel_rfl) (by kernel_rfl) (by kernel_rfl) (fun _ _ _ h => h) ?hy616 HSv ?hh616
  case hy616 =>
    refine Or.inl ⟨by rfl, ?_⟩
    intro W hW
    obtain ⟨h0, h1, h2⟩ := hW
    go_simp
    try with_reducible rfl
  simp only [Act.put, List.setIfInBounds_toArray, List.set_cons_zero, List.set_cons_succ]
  refine wpAnyH_end 59 (fun j hj => rgH_end _ _ j (by omega)) (by rfl) (by kernel_rfl) ?_
  simp only [List.drop_succ_cons, List.drop_zero]
  clear HSv
  go_wp2_with fail
  go_ret
  exact ⟨rfl, HBW.out.trans (HQ.out.bel.mono HBW.out.size)⟩

set_option maxHeartbeats 16000000 in
set_option maxRecDepth 100000 in
theorem meets_fo (a b : LCfg) (haa : I64 (aM a).auth) (hba : lcfgBad (aM a)) (hob : (bM b).Ok) (hm : a.magic ≠ b.magic) (dl : List Int) (dv : Value) (w : World) (hd : Nums w (fun _ => True) dv dl) (hi : ∀ x ∈ dl, I64 x) (h100 : dl.length ≤ 100) :
    Calls Tryz.prog 7 #[cfgV a, cfgV b, dv] w fun e w' => e = .returned (.bool true) ∧ Below w.heap.size w w' := by
  have q1 : ∀ w a, (binOp .eql 27 (.pointer (some a)) (.pointer none)).run Tryz.prog w = .ok (.bool false) w := fun w a => by kernel_rfl
  have HAL := Lib.hid lalive_any
  obtain ⟨sa, ca, rfl, hca, hcm⟩ := hd.form
  have HD := Lib.hid (And.intro hd hi)
  obtain ⟨len, hln⟩ : ∃ len, len = dl.length := ⟨_, rfl⟩
  have HLN := Lib.hid hln
  have HLL := Lib.hid h100
  have em : (a.magic == b.magic) = false := by simpa using hm
  have e100 : decide ((100 : Int) < (len : Int)) = false := by simp; omega
  rw [← hln] at hca ⊢
  unfold maxLen at hcm
  unfold cfgV
  have HNa := Lib.hid (show ∀ tb w3, Calls Tryz.prog 12 #[.agg #[.int .i64 a.mru, .int .i64 a.auth, .int .i64 a.magic, .int .i64 a.echo, .int .i64 10, .int .i64 2, .int .i64 10, .int .i64 3], .pointer (some ⟨tb, 0, none⟩)] w3 fun e w' => LFail w3 w' e from fun tb w3 => lnew_bad1 (aM a) haa hba _ w3)
  have HNb := Lib.hid (show ∀ tb okt w3, TapeAt w3 tb okt ⟨dl, 0⟩ → (∀ b, okt b → b < w3.heap.size) → Calls Tryz.prog 12 #[.agg #[.int .i64 b.mru, .int .i64 0, .int .i64 b.magic, .int .i64 b.echo, .int .i64 10, .int .i64 2, .int .i64 10, .int .i64 3], .pointer (some ⟨tb, 0, none⟩)] w3 fun e w' => NewL w3 w' e (bM b) tb okt ⟨dl, 0⟩ from fun tb okt w3 ht ho => lnew_tape (bM b) hob tb okt ⟨dl, 0⟩ w3 ht ho)
  clear hd hi hln h100
  go_enter Tryz.func7, Tryz.ntmps7
  go_wp2_with fail
  have hza := at20 w (.cells #[.int .i64 a.mru, .int .i64 a.auth, .int .i64 a.magic, .int .i64 a.echo, .int .i64 10, .int .i64 2, .int .i64 10, .int .i64 3] 24 (0, 0)) (.cells #[.int .i64 b.mru, .int .i64 0, .int .i64 b.magic, .int .i64 b.echo, .int .i64 10, .int .i64 2, .int .i64 10, .int .i64 3] 24 (0, 0))
  have hzb := at21 w (.cells #[.int .i64 a.mru, .int .i64 a.auth, .int .i64 a.magic, .int .i64 a.echo, .int .i64 10, .int .i64 2, .int .i64 10, .int .i64 3] 24 (0, 0)) (.cells #[.int .i64 b.mru, .int .i64 0, .int .i64 b.magic, .int .i64 b.echo, .int .i64 10, .int .i64 2, .int .i64 10, .int .i64 3] 24 (0, 0))
  have hbw := ((Below.refl w.heap.size w).alloc (Nat.le_refl _) (.cells #[.int .i64 a.mru, .int .i64 a.auth, .int .i64 a.magic, .int .i64 a.echo, .int .i64 10, .int .i64 2, .int .i64 10, .int .i64 3] 24 (0, 0))).alloc (by rw [alloc1]; omega) (.cells #[.int .i64 b.mru, .int .i64 0, .int .i64 b.magic, .int .i64 b.echo, .int .i64 10, .int .i64 2, .int .i64 10, .int .i64 3] 24 (0, 0))
  generalize (w.alloc (.cells #[.int .i64 a.mru, .int .i64 a.auth, .int .i64 a.magic, .int .i64 a.echo, .int .i64 10, .int .i64 2, .int .i64 10, .int .i64 3] 24 (0, 0))).alloc (.cells #[.int .i64 b.mru, .int .i64 0, .int .i64 b.magic, .int .i64 b.echo, .int .i64 10, .int .i64 2, .int .i64 10, .int .i64 3] 24 (0, 0)) = W at hza hzb hbw ⊢
  have HZa := Lib.hid hza
  have HZW := Lib.hid hzb
  have HBW := Lib.hid hbw
  have HBa := Lib.hid hbw
  clear hza hzb hbw
  have HSa := Lib.hid (show ∀ Y, Below W.heap.size W Y → (fun Y : World => Y.cell? ⟨w.heap.size, 0, none⟩ = some (.int .i64 a.mru) ∧ Y.cell? ⟨w.heap.size, 1, none⟩ = some (.int .i64 a.auth) ∧ Y.cell? ⟨w.heap.size, 2, none⟩ = some (.int .i64 a.magic) ∧ Y.cell? ⟨w.heap.size, 3, none⟩ = some (.int .i64 a.echo) ∧ Y.cell? ⟨w.heap.size, 4, none⟩ = some (.int .i64 10) ∧ Y.cell? ⟨w.heap.size, 5, none⟩ = some (.int .i64 2) ∧ Y.cell? ⟨w.heap.size, 6, none⟩ = some (.int .i64 10) ∧ Y.cell? ⟨w.heap.size, 7, none⟩ = some (.int .i64 3)) Y from fun Y hY => by
    have h := (hY.block w.heap.size (lt_of_heap' HZa.out)).trans HZa.out
    exact ⟨cellOf h 0 _ rfl, cellOf h 1 _ rfl, cellOf h 2 _ rfl, cellOf h 3 _ rfl, cellOf h 4 _ rfl, cellOf h 5 _ rfl, cellOf h 6 _ rfl, cellOf h 7 _ rfl⟩)
  have HTNa := Lib.hid (tapeNew_any dl _ _ W.drew (Nums.below HD.out.1 HBa.out.drew) HD.out.2 (by have := HLL.out; omega))
  rw [← HLN.out] at HTNa
  refine wp_region_H (rgH 0 9) (fun Y : World => Y.cell? ⟨w.heap.size, 0, none⟩ = some (.int .i64 a.mru) ∧ Y.cell? ⟨w.heap.size, 1, none⟩ = some (.int .i64 a.auth) ∧ Y.cell? ⟨w.heap.size, 2, none⟩ = some (.int .i64 a.magic) ∧ Y.cell? ⟨w.heap.size, 3, none⟩ = some (.int .i64 a.echo) ∧ Y.cell? ⟨w.heap.size, 4, none⟩ = some (.int .i64 10) ∧ Y.cell? ⟨w.heap.size, 5, none⟩ = some (.int .i64 2) ∧ Y.cell? ⟨w.heap.size, 6, none⟩ = some (.int .i64 10) ∧ Y.cell? ⟨w.heap.size, 7, none⟩ = some (.int .i64 3)) (by kernel_rfl) ?_
  have HSv : (fun Y : World => Y.cell? ⟨w.heap.size, 0, none⟩ = some (.int .i64 a.mru) ∧ Y.cell? ⟨w.heap.size, 1, none⟩ = some (.int .i64 a.auth) ∧ Y.cell? ⟨w.heap.size, 2, none⟩ = some (.int .i64 a.magic) ∧ Y.cell? ⟨w.heap.size, 3, none⟩ = some (.int .i64 a.echo) ∧ Y.cell? ⟨w.heap.size, 4, none⟩ = some (.int .i64 10) ∧ Y.cell? ⟨w.heap.size, 5, none⟩ = some (.int .i64 2) ∧ Y.cell? ⟨w.heap.size, 6, none⟩ = some (.int .i64 10) ∧ Y.cell? ⟨w.heap.size, 7, none⟩ = some (.int .i64 3)) W.drew := HSa.out _ (Below.refl _ _).drew
  refine wpAnyH_at 0 (v := ?vv617) rfl (by kernel_rfl) (by kernel_rfl) (by kernel_rfl) (fun _ _ _ h => h) ?hy617 HSv ?hh617
  case hy617 =>
    refine Or.inl ⟨by rfl, ?_⟩
    intro W hW
    obtain ⟨h0, h1, h2, h3, h4, h5, h6, h7⟩ := hW
    go_simp
    try with_reducible rfl
  simp only [Act.put, List.setIfInBounds_toArray, List.set_cons_zero, List.set_cons_succ]
  refine wpAnyH_at 1 (v := ?vv618) rfl (by kernel_rfl) (by kernel_rfl) (by kernel_rfl) (fun _ _ _ h => h) ?hy618 HSv ?hh618
  case hy618 =>
    refine Or.inl ⟨by rfl, ?_⟩
    intro W hW
    obtain ⟨h0, h1, h2, h3, h4, h5, h6, h7⟩ := hW
    go_simp
    try with_reducible rfl
  simp only [Act.put, List.setIfInBounds_toArray, List.set_cons_zero, List.set_cons_succ]
  refine wpAnyH_1 2 rfl (by kernel_rfl) ?_
  intro K hK
  rw [if_pos (by rfl)]
  try go_simp
  go_at_call 13
  refine HTNa.out.mono ?_
  rintro e wat ⟨tba, rfl, ta, sa, bta⟩
  have HBta := Lib.hid (show Below W.heap.size W wat from Below.trans (Below.refl _ _).drew bta)
  have HTa := Lib.hid (And.intro ta sa)
  have HSv : (fun Y : World => Y.cell? ⟨w.heap.size, 0, none⟩ = some (.int .i64 a.mru) ∧ Y.cell? ⟨w.heap.size, 1, none⟩ = some (.int .i64 a.auth) ∧ Y.cell? ⟨w.heap.size, 2, none⟩ = some (.int .i64 a.magic) ∧ Y.cell? ⟨w.heap.size, 3, none⟩ = some (.int .i64 a.echo) ∧ Y.cell? ⟨w.heap.size, 4, none⟩ = some (.int .i64 10) ∧ Y.cell? ⟨w.heap.size, 5, none⟩ = some (.int .i64 2) ∧ Y.cell? ⟨w.heap.size, 6, none⟩ = some (.int .i64 10) ∧ Y.cell? ⟨w.heap.size, 7, none⟩ = some (.int .i64 3)) wat := HSa.out _ HBta.out
  clear ta sa bta
  refine hK _ _ (fun _ => HSv) ?_
  try simp only [Act.put, List.setIfInBounds_toArray, List.set_cons_zero, List.set_cons_succ]
  refine wpAnyH_1 3 rfl (by kernel_rfl) ?_
  intro K hK
  rw [if_pos (by rfl)]
  try go_simp
  go_at_call 12
  refine (HNa.out _ wat).mono ?_
  rintro e wa ⟨rfl, bfa⟩
  have hba : Below W.heap.size W wa := HBta.out.trans (bfa.mono HBta.out.size)
  clear bfa
  have HSv : (fun Y : World => Y.cell? ⟨w.heap.size, 0, none⟩ = some (.int .i64 a.mru) ∧ Y.cell? ⟨w.heap.size, 1, none⟩ = some (.int .i64 a.auth) ∧ Y.cell? ⟨w.heap.size, 2, none⟩ = some (.int .i64 a.magic) ∧ Y.cell? ⟨w.heap.size, 3, none⟩ = some (.int .i64 a.echo) ∧ Y.cell? ⟨w.heap.size, 4, none⟩ = some (.int .i64 10) ∧ Y.cell? ⟨w.heap.size, 5, none⟩ = some (.int .i64 2) ∧ Y.cell? ⟨w.heap.size, 6, none⟩ = some (.int .i64 10) ∧ Y.cell? ⟨w.heap.size, 7, none⟩ = some (.int .i64 3)) wa := HSa.out _ hba
  have HEa := Lib.hid hba
  clear hba
  refine hK _ _ (fun _ => HSv) ?_
  try simp only [Act.put, List.setIfInBounds_toArray, List.set_cons_zero, List.set_cons_succ]
  refine wpAnyH_at 4 (v := ?vv619) rfl (by kernel_rfl) (by kernel_rfl) (by kernel_rfl) (fun _ _ _ h => h) ?hy619 HSv ?hh619
  case hy619 =>
    refine Or.inl ⟨by rfl, ?_⟩
    intro W hW
    obtain ⟨h0, h1, h2, h3, h4, h5, h6, h7⟩ := hW
    go_simp
    try with_reducible rfl
  simp only [Act.put, List.setIfInBounds_toArray, List.set_cons_zero, List.set_cons_succ]
  refine wpAnyH_at 5 (v := ?vv620) rfl (by kernel_rfl) (by kernel_rfl) (by kernel_rfl) (fun _ _ _ h => h) ?hy620 HSv ?hh620
  case hy620 =>
    refine Or.inl ⟨by rfl, ?_⟩
    intro W hW
    obtain ⟨h0, h1, h2, h3, h4, h5, h6, h7⟩ := hW
    go_simp
    try with_reducible rfl
  simp only [Act.put, List.setIfInBounds_toArray, List.set_cons_zero, List.set_cons_succ]
  refine wpAnyH_at 7 (v := ?vv621) rfl (by kernel_rfl) (by kernel_rfl) (by kernel_rfl) (fun _ _ _ h => h) ?hy621 HSv ?hh621
  case hy621 =>
    refine Or.inl ⟨by rfl, ?_⟩
    intro W hW
    obtain ⟨h0, h1, h2, h3, h4, h5, h6, h7⟩ := hW
    go_simp
    try with_reducible rfl
  simp only [Act.put, List.setIfInBounds_toArray, List.set_cons_zero, List.set_cons_succ]
  refine wpAnyH_at 6 (v := ?vv622) rfl (by kernel_rfl) (by kernel_rfl) (by kernel_rfl) (fun _ _ _ h => h) ?hy622 HSv ?hh622
  case hy622 =>
    refine Or.inl ⟨by rfl, ?_⟩
    intro W hW
    obtain ⟨h0, h1, h2, h3, h4, h5, h6, h7⟩ := hW
    go_simp
    try with_reducible rfl
  simp only [Act.put, List.setIfInBounds_toArray, List.set_cons_zero, List.set_cons_succ]
  refine wpAnyH_at 8 (v := ?vv623) rfl (by kernel_rfl) (by kernel_rfl) (by kernel_rfl) (fun _ _ _ h => h) ?hy623 HSv ?hh623
  case hy623 =>
    refine Or.inl ⟨by rfl, ?_⟩
    intro W hW
    obtain ⟨h0, h1, h2, h3, h4, h5, h6, h7⟩ := hW
    go_simp
    try with_reducible rfl
  simp only [Act.put, List.setIfInBounds_toArray, List.set_cons_zero, List.set_cons_succ]
  refine wpAnyH_end 9 (fun j hj => rgH_end _ _ j (by omega)) (by rfl) (by kernel_rfl) ?_
  simp only [List.drop_succ_cons, List.drop_zero]
  clear HSv HTNa HSa HBta HTa
  have HZb := Lib.hid ((HEa.out.block (w.heap.size + 1) (lt_of_heap' HZW.out)).trans HZW.out)
  have HBb := Lib.hid (HBW.out.trans (HEa.out.mono HBW.out.size))
  go_wp2_with fail
  have HSb := Lib.hid (show ∀ Y, Below wa.heap.size wa Y → (fun Y : World => Y.cell? ⟨(w.heap.size + 1), 0, none⟩ = some (.int .i64 b.mru) ∧ Y.cell? ⟨(w.heap.size + 1), 1, none⟩ = some (.int .i64 0) ∧ Y.cell? ⟨(w.heap.size + 1), 2, none⟩ = some (.int .i64 b.magic) ∧ Y.cell? ⟨(w.heap.size + 1), 3, none⟩ = some (.int .i64 b.echo) ∧ Y.cell? ⟨(w.heap.size + 1), 4, none⟩ = some (.int .i64 10) ∧ Y.cell? ⟨(w.heap.size + 1), 5, none⟩ = some (.int .i64 2) ∧ Y.cell? ⟨(w.heap.size + 1), 6, none⟩ = some (.int .i64 10) ∧ Y.cell? ⟨(w.heap.size + 1), 7, none⟩ = some (.int .i64 3)) Y from fun Y hY => by
    have h := (hY.block (w.heap.size + 1) (lt_of_heap' HZb.out)).trans HZb.out
    exact ⟨cellOf h 0 _ rfl, cellOf h 1 _ rfl, cellOf h 2 _ rfl, cellOf h 3 _ rfl, cellOf h 4 _ rfl, cellOf h 5 _ rfl, cellOf h 6 _ rfl, cellOf h 7 _ rfl⟩)
  have HTNb := Lib.hid (tapeNew_any dl _ _ wa.drew (Nums.below HD.out.1 HBb.out.drew) HD.out.2 (by have := HLL.out; omega))
  rw [← HLN.out] at HTNb
  refine wp_region_H (rgH 0 9) (fun Y : World => Y.cell? ⟨(w.heap.size + 1), 0, none⟩ = some (.int .i64 b.mru) ∧ Y.cell? ⟨(w.heap.size + 1), 1, none⟩ = some (.int .i64 0) ∧ Y.cell? ⟨(w.heap.size + 1), 2, none⟩ = some (.int .i64 b.magic) ∧ Y.cell? ⟨(w.heap.size + 1), 3, none⟩ = some (.int .i64 b.echo) ∧ Y.cell? ⟨(w.heap.size + 1), 4, none⟩ = some (.int .i64 10) ∧ Y.cell? ⟨(w.heap.size + 1), 5, none⟩ = some (.int .i64 2) ∧ Y.cell? ⟨(w.heap.size + 1), 6, none⟩ = some (.int .i64 10) ∧ Y.cell? ⟨(w.heap.size + 1), 7, none⟩ = some (.int .i64 3)) (by kernel_rfl) ?_
  have HSv : (fun Y : World => Y.cell? ⟨(w.heap.size + 1), 0, none⟩ = some (.int .i64 b.mru) ∧ Y.cell? ⟨(w.heap.size + 1), 1, none⟩ = some (.int .i64 0) ∧ Y.cell? ⟨(w.heap.size + 1), 2, none⟩ = some (.int .i64 b.magic) ∧ Y.cell? ⟨(w.heap.size + 1), 3, none⟩ = some (.int .i64 b.echo) ∧ Y.cell? ⟨(w.heap.size + 1), 4, none⟩ = some (.int .i64 10) ∧ Y.cell? ⟨(w.heap.size + 1), 5, none⟩ = some (.int .i64 2) ∧ Y.cell? ⟨(w.heap.size + 1), 6, none⟩ = some (.int .i64 10) ∧ Y.cell? ⟨(w.heap.size + 1), 7, none⟩ = some (.int .i64 3)) wa.drew := HSb.out _ (Below.refl _ _).drew
  refine wpAnyH_at 0 (v := ?vv624) rfl (by kernel_rfl) (by kernel_rfl) (by kernel_rfl) (fun _ _ _ h => h) ?hy624 HSv ?hh624
  case hy624 =>
    refine Or.inl ⟨by rfl, ?_⟩
    intro W hW
    obtain ⟨h0, h1, h2, h3, h4, h5, h6, h7⟩ := hW
    go_simp
    try with_reducible rfl
  simp only [Act.put, List.setIfInBounds_toArray, List.set_cons_zero, List.set_cons_succ]
  refine wpAnyH_at 1 (v := ?vv625) rfl (by kernel_rfl) (by kernel_rfl) (by kernel_rfl) (fun _ _ _ h => h) ?hy625 HSv ?hh625
  case hy625 =>
    refine Or.inl ⟨by rfl, ?_⟩
    intro W hW
    obtain ⟨h0, h1, h2, h3, h4, h5, h6, h7⟩ := hW
    go_simp
    try with_reducible rfl
  simp only [Act.put, List.setIfInBounds_toArray, List.set_cons_zero, List.set_cons_succ]
  refine wpAnyH_1 2 rfl (by kernel_rfl) ?_
  intro K hK
  rw [if_pos (by rfl)]
  try go_simp
  go_at_call 13
  refine HTNb.out.mono ?_
  rintro e wbt ⟨tbb, rfl, tb, sb, btb⟩
  have HBtb := Lib.hid (show Below wa.heap.size wa wbt from Below.trans (Below.refl _ _).drew btb)
  have HTb := Lib.hid (And.intro tb sb)
  have HSv : (fun Y : World => Y.cell? ⟨(w.heap.size + 1), 0, none⟩ = some (.int .i64 b.mru) ∧ Y.cell? ⟨(w.heap.size + 1), 1, none⟩ = some (.int .i64 0) ∧ Y.cell? ⟨(w.heap.size + 1), 2, none⟩ = some (.int .i64 b.magic) ∧ Y.cell? ⟨(w.heap.size + 1), 3, none⟩ = some (.int .i64 b.echo) ∧ Y.cell? ⟨(w.heap.size + 1), 4, none⟩ = some (.int .i64 10) ∧ Y.cell? ⟨(w.heap.size + 1), 5, none⟩ = some (.int .i64 2) ∧ Y.cell? ⟨(w.heap.size + 1), 6, none⟩ = some (.int .i64 10) ∧ Y.cell? ⟨(w.heap.size + 1), 7, none⟩ = some (.int .i64 3)) wbt := HSb.out _ HBtb.out
  clear tb sb btb
  refine hK _ _ (fun _ => HSv) ?_
  try simp only [Act.put, List.setIfInBounds_toArray, List.set_cons_zero, List.set_cons_succ]
  refine wpAnyH_1 3 rfl (by kernel_rfl) ?_
  intro K hK
  rw [if_pos (by rfl)]
  try go_simp
  go_at_call 12
  refine (HNb.out tbb _ wbt HTb.out.1 (fun b hb => by have := HTb.out.1.lt; omega)).mono ?_
  rintro e wb hmb
  obtain ⟨Lb, rfl, kb⟩ := LK.made (w0 := wa) hmb HBtb.out (fun b hb => hb.1) HTb.out.2
  have HKb := Lib.hid kb
  have hbb : Below wa.heap.size wa wb := kb.b
  clear hmb kb
  have HSv : (fun Y : World => Y.cell? ⟨(w.heap.size + 1), 0, none⟩ = some (.int .i64 b.mru) ∧ Y.cell? ⟨(w.heap.size + 1), 1, none⟩ = some (.int .i64 0) ∧ Y.cell? ⟨(w.heap.size + 1), 2, none⟩ = some (.int .i64 b.magic) ∧ Y.cell? ⟨(w.heap.size + 1), 3, none⟩ = some (.int .i64 b.echo) ∧ Y.cell? ⟨(w.heap.size + 1), 4, none⟩ = some (.int .i64 10) ∧ Y.cell? ⟨(w.heap.size + 1), 5, none⟩ = some (.int .i64 2) ∧ Y.cell? ⟨(w.heap.size + 1), 6, none⟩ = some (.int .i64 10) ∧ Y.cell? ⟨(w.heap.size + 1), 7, none⟩ = some (.int .i64 3)) wb := HSb.out _ hbb
  have HEb := Lib.hid hbb
  clear hbb
  refine hK _ _ (fun _ => HSv) ?_
  try simp only [Act.put, List.setIfInBounds_toArray, List.set_cons_zero, List.set_cons_succ]
  refine wpAnyH_at 4 (v := ?vv626) rfl (by kernel_rfl) (by kernel_rfl) (by kernel_rfl) (fun _ _ _ h => h) ?hy626 HSv ?hh626
  case hy626 =>
    refine Or.inl ⟨by rfl, ?_⟩
    intro W hW
    obtain ⟨h0, h1, h2, h3, h4, h5, h6, h7⟩ := hW
    go_simp
    try with_reducible rfl
  simp only [Act.put, List.setIfInBounds_toArray, List.set_cons_zero, List.set_cons_succ]
  refine wpAnyH_at 5 (v := ?vv627) rfl (by kernel_rfl) (by kernel_rfl) (by kernel_rfl) (fun _ _ _ h => h) ?hy627 HSv ?hh627
  case hy627 =>
    refine Or.inl ⟨by rfl, ?_⟩
    intro W hW
    obtain ⟨h0, h1, h2, h3, h4, h5, h6, h7⟩ := hW
    go_simp
    try with_reducible rfl
  simp only [Act.put, List.setIfInBounds_toArray, List.set_cons_zero, List.set_cons_succ]
  refine wpAnyH_at 7 (v := ?vv628) rfl (by kernel_rfl) (by kernel_rfl) (by kernel_rfl) (fun _ _ _ h => h) ?hy628 HSv ?hh628
  case hy628 =>
    refine Or.inl ⟨by rfl, ?_⟩
    intro W hW
    obtain ⟨h0, h1, h2, h3, h4, h5, h6, h7⟩ := hW
    go_simp
    try with_reducible rfl
  simp only [Act.put, List.setIfInBounds_toArray, List.set_cons_zero, List.set_cons_succ]
  refine wpAnyH_at 6 (v := ?vv629) rfl (by kernel_rfl) (by kernel_rfl) (by kernel_rfl) (fun _ _ _ h => h) ?hy629 HSv ?hh629
  case hy629 =>
    refine Or.inl ⟨by rfl, ?_⟩
    intro W hW
    obtain ⟨h0, h1, h2, h3, h4, h5, h6, h7⟩ := hW
    go_simp
    try with_reducible rfl
  simp only [Act.put, List.setIfInBounds_toArray, List.set_cons_zero, List.set_cons_succ]
  refine wpAnyH_at 8 (v := ?vv630) rfl (by kernel_rfl) (by kernel_rfl) (by kernel_rfl) (fun _ _ _ h => h) ?hy630 HSv ?hh630
  case hy630 =>
    refine Or.inl ⟨by rfl, ?_⟩
    intro W hW
    obtain ⟨h0, h1, h2, h3, h4, h5, h6, h7⟩ := hW
    go_simp
    try with_reducible rfl
  simp only [Act.put, List.setIfInBounds_toArray, List.set_cons_zero, List.set_cons_succ]
  refine wpAnyH_end 9 (fun j hj => rgH_end _ _ j (by omega)) (by rfl) (by kernel_rfl) ?_
  simp only [List.drop_succ_cons, List.drop_zero]
  clear HSv HTNb HSb HBtb HTb
  have HBF := Lib.hid (HBb.out.trans (HEb.out.mono HBb.out.size))
  go_wp2_with (go_at_call 11; refine (HAL.out _).mono ?_; rintro e w8 ⟨rfl, b8⟩)
  go_ret
  exact ⟨rfl, HBF.out.trans (b8.mono HBF.out.size)⟩

set_option maxHeartbeats 16000000 in
set_option maxRecDepth 100000 in
theorem meets_of (a b : LCfg) (hoa : (aM a).Ok) (hab : I64 (bM b).auth) (hbb : lcfgBad (bM b)) (hm : a.magic ≠ b.magic) (dl : List Int) (dv : Value) (w : World) (hd : Nums w (fun _ => True) dv dl) (hi : ∀ x ∈ dl, I64 x) (h100 : dl.length ≤ 100) :
    Calls Tryz.prog 7 #[cfgV a, cfgV b, dv] w fun e w' => e = .returned (.bool true) ∧ Below w.heap.size w w' := by
  have q1 : ∀ w a, (binOp .eql 27 (.pointer (some a)) (.pointer none)).run Tryz.prog w = .ok (.bool false) w := fun w a => by kernel_rfl
  have HAL := Lib.hid lalive_any
  obtain ⟨sa, ca, rfl, hca, hcm⟩ := hd.form
  have HD := Lib.hid (And.intro hd hi)
  obtain ⟨len, hln⟩ : ∃ len, len = dl.length := ⟨_, rfl⟩
  have HLN := Lib.hid hln
  have HLL := Lib.hid h100
  have em : (a.magic == b.magic) = false := by simpa using hm
  have e100 : decide ((100 : Int) < (len : Int)) = false := by simp; omega
  rw [← hln] at hca ⊢
  unfold maxLen at hcm
  unfold cfgV
  have HNa := Lib.hid (show ∀ tb okt w3, TapeAt w3 tb okt ⟨dl, 0⟩ → (∀ b, okt b → b < w3.heap.size) → Calls Tryz.prog 12 #[.agg #[.int .i64 a.mru, .int .i64 a.auth, .int .i64 a.magic, .int .i64 a.echo, .int .i64 10, .int .i64 2, .int .i64 10, .int .i64 3], .pointer (some ⟨tb, 0, none⟩)] w3 fun e w' => NewL w3 w' e (aM a) tb okt ⟨dl, 0⟩ from fun tb okt w3 ht ho => lnew_tape (aM a) hoa tb okt ⟨dl, 0⟩ w3 ht ho)
  have HNb := Lib.hid (show ∀ tb w3, Calls Tryz.prog 12 #[.agg #[.int .i64 b.mru, .int .i64 0, .int .i64 b.magic, .int .i64 b.echo, .int .i64 10, .int .i64 2, .int .i64 10, .int .i64 3], .pointer (some ⟨tb, 0, none⟩)] w3 fun e w' => LFail w3 w' e from fun tb w3 => lnew_bad1 (bM b) hab hbb _ w3)
  clear hd hi hln h100
  go_enter Tryz.func7, Tryz.ntmps7
  go_wp2_with fail
  have hza := at20 w (.cells #[.int .i64 a.mru, .int .i64 a.auth, .int .i64 a.magic, .int .i64 a.echo, .int .i64 10, .int .i64 2, .int .i64 10, .int .i64 3] 24 (0, 0)) (.cells #[.int .i64 b.mru, .int .i64 0, .int .i64 b.magic, .int .i64 b.echo, .int .i64 10, .int .i64 2, .int .i64 10, .int .i64 3] 24 (0, 0))
  have hzb := at21 w (.cells #[.int .i64 a.mru, .int .i64 a.auth, .int .i64 a.magic, .int .i64 a.echo, .int .i64 10, .int .i64 2, .int .i64 10, .int .i64 3] 24 (0, 0)) (.cells #[.int .i64 b.mru, .int .i64 0, .int .i64 b.magic, .int .i64 b.echo, .int .i64 10, .int .i64 2, .int .i64 10, .int .i64 3] 24 (0, 0))
  have hbw := ((Below.refl w.heap.size w).alloc (Nat.le_refl _) (.cells #[.int .i64 a.mru, .int .i64 a.auth, .int .i64 a.magic, .int .i64 a.echo, .int .i64 10, .int .i64 2, .int .i64 10, .int .i64 3] 24 (0, 0))).alloc (by rw [alloc1]; omega) (.cells #[.int .i64 b.mru, .int .i64 0, .int .i64 b.magic, .int .i64 b.echo, .int .i64 10, .int .i64 2, .int .i64 10, .int .i64 3] 24 (0, 0))
  generalize (w.alloc (.cells #[.int .i64 a.mru, .int .i64 a.auth, .int .i64 a.magic, .int .i64 a.echo, .int .i64 10, .int .i64 2, .int .i64 10, .int .i64 3] 24 (0, 0))).alloc (.cells #[.int .i64 b.mru, .int .i64 0, .int .i64 b.magic, .int .i64 b.echo, .int .i64 10, .int .i64 2, .int .i64 10, .int .i64 3] 24 (0, 0)) = W at hza hzb hbw ⊢
  have HZa := Lib.hid hza
  have HZW := Lib.hid hzb
  have HBW := Lib.hid hbw
  have HBa := Lib.hid hbw
  clear hza hzb hbw
  have HSa := Lib.hid (show ∀ Y, Below W.heap.size W Y → (fun Y : World => Y.cell? ⟨w.heap.size, 0, none⟩ = some (.int .i64 a.mru) ∧ Y.cell? ⟨w.heap.size, 1, none⟩ = some (.int .i64 a.auth) ∧ Y.cell? ⟨w.heap.size, 2, none⟩ = some (.int .i64 a.magic) ∧ Y.cell? ⟨w.heap.size, 3, none⟩ = some (.int .i64 a.echo) ∧ Y.cell? ⟨w.heap.size, 4, none⟩ = some (.int .i64 10) ∧ Y.cell? ⟨w.heap.size, 5, none⟩ = some (.int .i64 2) ∧ Y.cell? ⟨w.heap.size, 6, none⟩ = some (.int .i64 10) ∧ Y.cell? ⟨w.heap.size, 7, none⟩ = some (.int .i64 3)) Y from fun Y hY => by
    have h := (hY.block w.heap.size (lt_of_heap' HZa.out)).trans HZa.out
    exact ⟨cellOf h 0 _ rfl, cellOf h 1 _ rfl, cellOf h 2 _ rfl, cellOf h 3 _ rfl, cellOf h 4 _ rfl, cellOf h 5 _ rfl, cellOf h 6 _ rfl, cellOf h 7 _ rfl⟩)
  have HTNa := Lib.hid (tapeNew_any dl _ _ W.drew (Nums.below HD.out.1 HBa.out.drew) HD.out.2 (by have := HLL.out; omega))
  rw [← HLN.out] at HTNa
  refine wp_region_H (rgH 0 9) (fun Y : World => Y.cell? ⟨w.heap.size, 0, none⟩ = some (.int .i64 a.mru) ∧ Y.cell? ⟨w.heap.size, 1, none⟩ = some (.int .i64 a.auth) ∧ Y.cell? ⟨w.heap.size, 2, none⟩ = some (.int .i64 a.magic) ∧ Y.cell? ⟨w.heap.size, 3, none⟩ = some (.int .i64 a.echo) ∧ Y.cell? ⟨w.heap.size, 4, none⟩ = some (.int .i64 10) ∧ Y.cell? ⟨w.heap.size, 5, none⟩ = some (.int .i64 2) ∧ Y.cell? ⟨w.heap.size, 6, none⟩ = some (.int .i64 10) ∧ Y.cell? ⟨w.heap.size, 7, none⟩ = some (.int .i64 3)) (by kernel_rfl) ?_
  have HSv : (fun Y : World => Y.cell? ⟨w.heap.size, 0, none⟩ = some (.int .i64 a.mru) ∧ Y.cell? ⟨w.heap.size, 1, none⟩ = some (.int .i64 a.auth) ∧ Y.cell? ⟨w.heap.size, 2, none⟩ = some (.int .i64 a.magic) ∧ Y.cell? ⟨w.heap.size, 3, none⟩ = some (.int .i64 a.echo) ∧ Y.cell? ⟨w.heap.size, 4, none⟩ = some (.int .i64 10) ∧ Y.cell? ⟨w.heap.size, 5, none⟩ = some (.int .i64 2) ∧ Y.cell? ⟨w.heap.size, 6, none⟩ = some (.int .i64 10) ∧ Y.cell? ⟨w.heap.size, 7, none⟩ = some (.int .i64 3)) W.drew := HSa.out _ (Below.refl _ _).drew
  refine wpAnyH_at 0 (v := ?vv631) rfl (by kernel_rfl) (by kernel_rfl) (by kernel_rfl) (fun _ _ _ h => h) ?hy631 HSv ?hh631
  case hy631 =>
    refine Or.inl ⟨by rfl, ?_⟩
    intro W hW
    obtain ⟨h0, h1, h2, h3, h4, h5, h6, h7⟩ := hW
    go_simp
    try with_reducible rfl
  simp only [Act.put, List.setIfInBounds_toArray, List.set_cons_zero, List.set_cons_succ]
  refine wpAnyH_at 1 (v := ?vv632) rfl (by kernel_rfl) (by kernel_rfl) (by kernel_rfl) (fun _ _ _ h => h) ?hy632 HSv ?hh632
  case hy632 =>
    refine Or.inl ⟨by rfl, ?_⟩
    intro W hW
    obtain ⟨h0, h1, h2, h3, h4, h5, h6, h7⟩ := hW
    go_simp
    try with_reducible rfl
  simp only [Act.put, List.setIfInBounds_toArray, List.set_cons_zero, List.set_cons_succ]
  refine wpAnyH_1 2 rfl (by kernel_rfl) ?_
  intro K hK
  rw [if_pos (by rfl)]
  try go_simp
  go_at_call 13
  refine HTNa.out.mono ?_
  rintro e wat ⟨tba, rfl, ta, sa, bta⟩
  have HBta := Lib.hid (show Below W.heap.size W wat from Below.trans (Below.refl _ _).drew bta)
  have HTa := Lib.hid (And.intro ta sa)
  have HSv : (fun Y : World => Y.cell? ⟨w.heap.size, 0, none⟩ = some (.int .i64 a.mru) ∧ Y.cell? ⟨w.heap.size, 1, none⟩ = some (.int .i64 a.auth) ∧ Y.cell? ⟨w.heap.size, 2, none⟩ = some (.int .i64 a.magic) ∧ Y.cell? ⟨w.heap.size, 3, none⟩ = some (.int .i64 a.echo) ∧ Y.cell? ⟨w.heap.size, 4, none⟩ = some (.int .i64 10) ∧ Y.cell? ⟨w.heap.size, 5, none⟩ = some (.int .i64 2) ∧ Y.cell? ⟨w.heap.size, 6, none⟩ = some (.int .i64 10) ∧ Y.cell? ⟨w.heap.size, 7, none⟩ = some (.int .i64 3)) wat := HSa.out _ HBta.out
  clear ta sa bta
  refine hK _ _ (fun _ => HSv) ?_
  try simp only [Act.put, List.setIfInBounds_toArray, List.set_cons_zero, List.set_cons_succ]
  refine wpAnyH_1 3 rfl (by kernel_rfl) ?_
  intro K hK
  rw [if_pos (by rfl)]
  try go_simp
  go_at_call 12
  refine (HNa.out tba _ wat HTa.out.1 (fun b hb => by have := HTa.out.1.lt; omega)).mono ?_
  rintro e wa hma
  obtain ⟨La, rfl, ka⟩ := LK.made (w0 := W) hma HBta.out (fun b hb => hb.1) HTa.out.2
  have HKa := Lib.hid ka
  have hba : Below W.heap.size W wa := ka.b
  clear hma ka
  have HSv : (fun Y : World => Y.cell? ⟨w.heap.size, 0, none⟩ = some (.int .i64 a.mru) ∧ Y.cell? ⟨w.heap.size, 1, none⟩ = some (.int .i64 a.auth) ∧ Y.cell? ⟨w.heap.size, 2, none⟩ = some (.int .i64 a.magic) ∧ Y.cell? ⟨w.heap.size, 3, none⟩ = some (.int .i64 a.echo) ∧ Y.cell? ⟨w.heap.size, 4, none⟩ = some (.int .i64 10) ∧ Y.cell? ⟨w.heap.size, 5, none⟩ = some (.int .i64 2) ∧ Y.cell? ⟨w.heap.size, 6, none⟩ = some (.int .i64 10) ∧ Y.cell? ⟨w.heap.size, 7, none⟩ = some (.int .i64 3)) wa := HSa.out _ hba
  have HEa := Lib.hid hba
  clear hba
  refine hK _ _ (fun _ => HSv) ?_
  try simp only [Act.put, List.setIfInBounds_toArray, List.set_cons_zero, List.set_cons_succ]
  refine wpAnyH_at 4 (v := ?vv633) rfl (by kernel_rfl) (by kernel_rfl) (by kernel_rfl) (fun _ _ _ h => h) ?hy633 HSv ?hh633
  case hy633 =>
    refine Or.inl ⟨by rfl, ?_⟩
    intro W hW
    obtain ⟨h0, h1, h2, h3, h4, h5, h6, h7⟩ := hW
    go_simp
    try with_reducible rfl
  simp only [Act.put, List.setIfInBounds_toArray, List.set_cons_zero, List.set_cons_succ]
  refine wpAnyH_at 5 (v := ?vv634) rfl (by kernel_rfl) (by kernel_rfl) (by kernel_rfl) (fun _ _ _ h => h) ?hy634 HSv ?hh634
  case hy634 =>
    refine Or.inl ⟨by rfl, ?_⟩
    intro W hW
    obtain ⟨h0, h1, h2, h3, h4, h5, h6, h7⟩ := hW
    go_simp
    try with_reducible rfl
  simp only [Act.put, List.setIfInBounds_toArray, List.set_cons_zero, List.set_cons_succ]
  refine wpAnyH_at 7 (v := ?vv635) rfl (by kernel_rfl) (by kernel_rfl) (by kernel_rfl) (fun _ _ _ h => h) ?hy635 HSv ?hh635
  case hy635 =>
    refine Or.inl ⟨by rfl, ?_⟩
    intro W hW
    obtain ⟨h0, h1, h2, h3, h4, h5, h6, h7⟩ := hW
    go_simp
    try with_reducible rfl
  simp only [Act.put, List.setIfInBounds_toArray, List.set_cons_zero, List.set_cons_succ]
  refine wpAnyH_at 6 (v := ?vv636) rfl (by kernel_rfl) (by kernel_rfl) (by kernel_rfl) (fun _ _ _ h => h) ?hy636 HSv ?hh636
  case hy636 =>
    refine Or.inl ⟨by rfl, ?_⟩
    intro W hW
    obtain ⟨h0, h1, h2, h3, h4, h5, h6, h7⟩ := hW
    go_simp
    try with_reducible rfl
  simp only [Act.put, List.setIfInBounds_toArray, List.set_cons_zero, List.set_cons_succ]
  refine wpAnyH_at 8 (v := ?vv637) rfl (by kernel_rfl) (by kernel_rfl) (by kernel_rfl) (fun _ _ _ h => h) ?hy637 HSv ?hh637
  case hy637 =>
    refine Or.inl ⟨by rfl, ?_⟩
    intro W hW
    obtain ⟨h0, h1, h2, h3, h4, h5, h6, h7⟩ := hW
    go_simp
    try with_reducible rfl
  simp only [Act.put, List.setIfInBounds_toArray, List.set_cons_zero, List.set_cons_succ]
  refine wpAnyH_end 9 (fun j hj => rgH_end _ _ j (by omega)) (by rfl) (by kernel_rfl) ?_
  simp only [List.drop_succ_cons, List.drop_zero]
  clear HSv HTNa HSa HBta HTa
  have HZb := Lib.hid ((HEa.out.block (w.heap.size + 1) (lt_of_heap' HZW.out)).trans HZW.out)
  have HBb := Lib.hid (HBW.out.trans (HEa.out.mono HBW.out.size))
  go_wp2_with fail
  have HSb := Lib.hid (show ∀ Y, Below wa.heap.size wa Y → (fun Y : World => Y.cell? ⟨(w.heap.size + 1), 0, none⟩ = some (.int .i64 b.mru) ∧ Y.cell? ⟨(w.heap.size + 1), 1, none⟩ = some (.int .i64 0) ∧ Y.cell? ⟨(w.heap.size + 1), 2, none⟩ = some (.int .i64 b.magic) ∧ Y.cell? ⟨(w.heap.size + 1), 3, none⟩ = some (.int .i64 b.echo) ∧ Y.cell? ⟨(w.heap.size + 1), 4, none⟩ = some (.int .i64 10) ∧ Y.cell? ⟨(w.heap.size + 1), 5, none⟩ = some (.int .i64 2) ∧ Y.cell? ⟨(w.heap.size + 1), 6, none⟩ = some (.int .i64 10) ∧ Y.cell? ⟨(w.heap.size + 1), 7, none⟩ = some (.int .i64 3)) Y from fun Y hY => by
    have h := (hY.block (w.heap.size + 1) (lt_of_heap' HZb.out)).trans HZb.out
    exact ⟨cellOf h 0 _ rfl, cellOf h 1 _ rfl, cellOf h 2 _ rfl, cellOf h 3 _ rfl, cellOf h 4 _ rfl, cellOf h 5 _ rfl, cellOf h 6 _ rfl, cellOf h 7 _ rfl⟩)
  have HTNb := Lib.hid (tapeNew_any dl _ _ wa.drew (Nums.below HD.out.1 HBb.out.drew) HD.out.2 (by have := HLL.out; omega))
  rw [← HLN.out] at HTNb
  refine wp_region_H (rgH 0 9) (fun Y : World => Y.cell? ⟨(w.heap.size + 1), 0, none⟩ = some (.int .i64 b.mru) ∧ Y.cell? ⟨(w.heap.size + 1), 1, none⟩ = some (.int .i64 0) ∧ Y.cell? ⟨(w.heap.size + 1), 2, none⟩ = some (.int .i64 b.magic) ∧ Y.cell? ⟨(w.heap.size + 1), 3, none⟩ = some (.int .i64 b.echo) ∧ Y.cell? ⟨(w.heap.size + 1), 4, none⟩ = some (.int .i64 10) ∧ Y.cell? ⟨(w.heap.size + 1), 5, none⟩ = some (.int .i64 2) ∧ Y.cell? ⟨(w.heap.size + 1), 6, none⟩ = some (.int .i64 10) ∧ Y.cell? ⟨(w.heap.size + 1), 7, none⟩ = some (.int .i64 3)) (by kernel_rfl) ?_
  have HSv : (fun Y : World => Y.cell? ⟨(w.heap.size + 1), 0, none⟩ = some (.int .i64 b.mru) ∧ Y.cell? ⟨(w.heap.size + 1), 1, none⟩ = some (.int .i64 0) ∧ Y.cell? ⟨(w.heap.size + 1), 2, none⟩ = some (.int .i64 b.magic) ∧ Y.cell? ⟨(w.heap.size + 1), 3, none⟩ = some (.int .i64 b.echo) ∧ Y.cell? ⟨(w.heap.size + 1), 4, none⟩ = some (.int .i64 10) ∧ Y.cell? ⟨(w.heap.size + 1), 5, none⟩ = some (.int .i64 2) ∧ Y.cell? ⟨(w.heap.size + 1), 6, none⟩ = some (.int .i64 10) ∧ Y.cell? ⟨(w.heap.size + 1), 7, none⟩ = some (.int .i64 3)) wa.drew := HSb.out _ (Below.refl _ _).drew
  refine wpAnyH_at 0 (v := ?vv638) rfl (by kernel_rfl) (by kernel_rfl) (by kernel_rfl) (fun _ _ _ h => h) ?hy638 HSv ?hh638
  case hy638 =>
    refine Or.inl ⟨by rfl, ?_⟩
    intro W hW
    obtain ⟨h0, h1, h2, h3, h4, h5, h6, h7⟩ := hW
    go_simp
    try with_reducible rfl
  simp only [Act.put, List.setIfInBounds_toArray, List.set_cons_zero, List.set_cons_succ]
  refine wpAnyH_at 1 (v := ?vv639) rfl (by kernel_rfl) (by kernel_rfl) (by kernel_rfl) (fun _ _ _ h => h) ?hy639 HSv ?hh639
  case hy639 =>
    refine Or.inl ⟨by rfl, ?_⟩
    intro W hW
    obtain ⟨h0, h1, h2, h3, h4, h5, h6, h7⟩ := hW
    go_simp
    try with_reducible rfl
  simp only [Act.put, List.setIfInBounds_toArray, List.set_cons_zero, List.set_cons_succ]
  refine wpAnyH_1 2 rfl (by kernel_rfl) ?_
  intro K hK
  rw [if_pos (by rfl)]
  try go_simp
  go_at_call 13
  refine HTNb.out.mono ?_
  rintro e wbt ⟨tbb, rfl, tb, sb, btb⟩
  have HBtb := Lib.hid (show Below wa.heap.size wa wbt from Below.trans (Below.refl _ _).drew btb)
  have HTb := Lib.hid (And.intro tb sb)
  have HSv : (fun Y : World => Y.cell? ⟨(w.heap.size + 1), 0, none⟩ = some (.int .i64 b.mru) ∧ Y.cell? ⟨(w.heap.size + 1), 1, none⟩ = some (.int .i64 0) ∧ Y.cell? ⟨(w.heap.size + 1), 2, none⟩ = some (.int .i64 b.magic) ∧ Y.cell? ⟨(w.heap.size + 1), 3, none⟩ = some (.int .i64 b.echo) ∧ Y.cell? ⟨(w.heap.size + 1), 4, none⟩ = some (.int .i64 10) ∧ Y.cell? ⟨(w.heap.size + 1), 5, none⟩ = some (.int .i64 2) ∧ Y.cell? ⟨(w.heap.size + 1), 6, none⟩ = some (.int .i64 10) ∧ Y.cell? ⟨(w.heap.size + 1), 7, none⟩ = some (.int .i64 3)) wbt := HSb.out _ HBtb.out
  clear tb sb btb
  refine hK _ _ (fun _ => HSv) ?_
  try simp only [Act.put, List.setIfInBounds_toArray, List.set_cons_zero, List.set_cons_succ]
  refine wpAnyH_1 3 rfl (by kernel_rfl) ?_
  intro K hK
  rw [if_pos (by rfl)]
  try go_simp
  go_at_call 12
  refine (HNb.out _ wbt).mono ?_
  rintro e wb ⟨rfl, bfb⟩
  have hbb : Below wa.heap.size wa wb := HBtb.out.trans (bfb.mono HBtb.out.size)
  clear bfb
  have HSv : (fun Y : World => Y.cell? ⟨(w.heap.size + 1), 0, none⟩ = some (.int .i64 b.mru) ∧ Y.cell? ⟨(w.heap.size + 1), 1, none⟩ = some (.int .i64 0) ∧ Y.cell? ⟨(w.heap.size + 1), 2, none⟩ = some (.int .i64 b.magic) ∧ Y.cell? ⟨(w.heap.size + 1), 3, none⟩ = some (.int .i64 b.echo) ∧ Y.cell? ⟨(w.heap.size + 1), 4, none⟩ = some (.int .i64 10) ∧ Y.cell? ⟨(w.heap.size + 1), 5, none⟩ = some (.int .i64 2) ∧ Y.cell? ⟨(w.heap.size + 1), 6, none⟩ = some (.int .i64 10) ∧ Y.cell? ⟨(w.heap.size + 1), 7, none⟩ = some (.int .i64 3)) wb := HSb.out _ hbb
  have HEb := Lib.hid hbb
  clear hbb
  refine hK _ _ (fun _ => HSv) ?_
  try simp only [Act.put, List.setIfInBounds_toArray, List.set_cons_zero, List.set_cons_succ]
  refine wpAnyH_at 4 (v := ?vv640) rfl (by kernel_rfl) (by kernel_rfl) (by kernel_rfl) (fun _ _ _ h => h) ?hy640 HSv ?hh640
  case hy640 =>
    refine Or.inl ⟨by rfl, ?_⟩
    intro W hW
    obtain ⟨h0, h1, h2, h3, h4, h5, h6, h7⟩ := hW
    go_simp
    try with_reducible rfl
  simp only [Act.put, List.setIfInBounds_toArray, List.set_cons_zero, List.set_cons_succ]
  refine wpAnyH_at 5 (v := ?vv641) rfl (by kernel_rfl) (by kernel_rfl) (by kernel_rfl) (fun _ _ _ h => h) ?hy641 HSv ?hh641
  case hy641 =>
    refine Or.inl ⟨by rfl, ?_⟩
    intro W hW
    obtain ⟨h0, h1, h2, h3, h4, h5, h6, h7⟩ := hW
    go_simp
    try with_reducible rfl
  simp only [Act.put, List.setIfInBounds_toArray, List.set_cons_zero, List.set_cons_succ]
  refine wpAnyH_at 7 (v := ?vv642) rfl (by kernel_rfl) (by kernel_rfl) (by kernel_rfl) (fun _ _ _ h => h) ?hy642 HSv ?hh642
  case hy642 =>
    refine Or.inl ⟨by rfl, ?_⟩
    intro W hW
    obtain ⟨h0, h1, h2, h3, h4, h5, h6, h7⟩ := hW
    go_simp
    try with_reducible rfl
  simp only [Act.put, List.setIfInBounds_toArray, List.set_cons_zero, List.set_cons_succ]
  refine wpAnyH_at 6 (v := ?vv643) rfl (by kernel_rfl) (by kernel_rfl) (by kernel_rfl) (fun _ _ _ h => h) ?hy643 HSv ?hh643
  case hy643 =>
    refine Or.inl ⟨by rfl, ?_⟩
    intro W hW
    obtain ⟨h0, h1, h2, h3, h4, h5, h6, h7⟩ := hW
    go_simp
    try with_reducible rfl
  simp only [Act.put, List.setIfInBounds_toArray, List.set_cons_zero, List.set_cons_succ]
  refine wpAnyH_at 8 (v := ?vv644) rfl (by kernel_rfl) (by kernel_rfl) (by kernel_rfl) (fun _ _ _ h => h) ?hy644 HSv ?hh644
  case hy644 =>
    refine Or.inl ⟨by rfl, ?_⟩
    intro W hW
    obtain ⟨h0, h1, h2, h3, h4, h5, h6, h7⟩ := hW
    go_simp
    try with_reducible rfl
  simp only [Act.put, List.setIfInBounds_toArray, List.set_cons_zero, List.set_cons_succ]
  refine wpAnyH_end 9 (fun j hj => rgH_end _ _ j (by omega)) (by rfl) (by kernel_rfl) ?_
  simp only [List.drop_succ_cons, List.drop_zero]
  clear HSv HTNb HSb HBtb HTb
  have HBF := Lib.hid (HBb.out.trans (HEb.out.mono HBb.out.size))
  go_wp2_with (go_at_call 11; refine (HAL.out _).mono ?_; rintro e w8 ⟨rfl, b8⟩)
  go_ret
  exact ⟨rfl, HBF.out.trans (b8.mono HBF.out.size)⟩

set_option maxHeartbeats 16000000 in
set_option maxRecDepth 100000 in
theorem meets_ff (a b : LCfg) (haa : I64 (aM a).auth) (hba : lcfgBad (aM a)) (hab : I64 (bM b).auth) (hbb : lcfgBad (bM b)) (hm : a.magic ≠ b.magic) (dl : List Int) (dv : Value) (w : World) (hd : Nums w (fun _ => True) dv dl) (hi : ∀ x ∈ dl, I64 x) (h100 : dl.length ≤ 100) :
    Calls Tryz.prog 7 #[cfgV a, cfgV b, dv] w fun e w' => e = .returned (.bool true) ∧ Below w.heap.size w w' := by
  have q1 : ∀ w a, (binOp .eql 27 (.pointer (some a)) (.pointer none)).run Tryz.prog w = .ok (.bool false) w := fun w a => by kernel_rfl
  have HAL := Lib.hid lalive_any
  obtain ⟨sa, ca, rfl, hca, hcm⟩ := hd.form
  have HD := Lib.hid (And.intro hd hi)
  obtain ⟨len, hln⟩ : ∃ len, len = dl.length := ⟨_, rfl⟩
  have HLN := Lib.hid hln
  have HLL := Lib.hid h100
  have em : (a.magic == b.magic) = false := by simpa using hm
  have e100 : decide ((100 : Int) < (len : Int)) = false := by simp; omega
  rw [← hln] at hca ⊢
  unfold maxLen at hcm
  unfold cfgV
  have HNa := Lib.hid (show ∀ tb w3, Calls Tryz.prog 12 #[.agg #[.int .i64 a.mru, .int .i64 a.auth, .int .i64 a.magic, .int .i64 a.echo, .int .i64 10, .int .i64 2, .int .i64 10, .int .i64 3], .pointer (some ⟨tb, 0, none⟩)] w3 fun e w' => LFail w3 w' e from fun tb w3 => lnew_bad1 (aM a) haa hba _ w3)
  have HNb := Lib.hid (show ∀ tb w3, Calls Tryz.prog 12 #[.agg #[.int .i64 b.mru, .int .i64 0, .int .i64 b.magic, .int .i64 b.echo, .int .i64 10, .int .i64 2, .int .i64 10, .int .i64 3], .pointer (some ⟨tb, 0, none⟩)] w3 fun e w' => LFail w3 w' e from fun tb w3 => lnew_bad1 (bM b) hab hbb _ w3)
  clear hd hi hln h100
  go_enter Tryz.func7, Tryz.ntmps7
  go_wp2_with fail
  have hza := at20 w (.cells #[.int .i64 a.mru, .int .i64 a.auth, .int .i64 a.magic, .int .i64 a.echo, .int .i64 10, .int .i64 2, .int .i64 10, .int .i64 3] 24 (0, 0)) (.cells #[.int .i64 b.mru, .int .i64 0, .int .i64 b.magic, .int .i64 b.echo, .int .i64 10, .int .i64 2, .int .i64 10, .int .i64 3] 24 (0, 0))
  have hzb := at21 w (.cells #[.int .i64 a.mru, .int .i64 a.auth, .int .i64 a.magic, .int .i64 a.echo, .int .i64 10, .int .i64 2, .int .i64 10, .int .i64 3] 24 (0, 0)) (.cells #[.int .i64 b.mru, .int .i64 0, .int .i64 b.magic, .int .i64 b.echo, .int .i64 10, .int .i64 2, .int .i64 10, .int .i64 3] 24 (0, 0))
  have hbw := ((Below.refl w.heap.size w).alloc (Nat.le_refl _) (.cells #[.int .i64 a.mru, .int .i64 a.auth, .int .i64 a.magic, .int .i64 a.echo, .int .i64 10, .int .i64 2, .int .i64 10, .int .i64 3] 24 (0, 0))).alloc (by rw [alloc1]; omega) (.cells #[.int .i64 b.mru, .int .i64 0, .int .i64 b.magic, .int .i64 b.echo, .int .i64 10, .int .i64 2, .int .i64 10, .int .i64 3] 24 (0, 0))
  generalize (w.alloc (.cells #[.int .i64 a.mru, .int .i64 a.auth, .int .i64 a.magic, .int .i64 a.echo, .int .i64 10, .int .i64 2, .int .i64 10, .int .i64 3] 24 (0, 0))).alloc (.cells #[.int .i64 b.mru, .int .i64 0, .int .i64 b.magic, .int .i64 b.echo, .int .i64 10, .int .i64 2, .int .i64 10, .int .i64 3] 24 (0, 0)) = W at hza hzb hbw ⊢
  have HZa := Lib.hid hza
  have HZW := Lib.hid hzb
  have HBW := Lib.hid hbw
  have HBa := Lib.hid hbw
  clear hza hzb hbw
  have HSa := Lib.hid (show ∀ Y, Below W.heap.size W Y → (fun Y : World => Y.cell? ⟨w.heap.size, 0, none⟩ = some (.int .i64 a.mru) ∧ Y.cell? ⟨w.heap.size, 1, none⟩ = some (.int .i64 a.auth) ∧ Y.cell? ⟨w.heap.size, 2, none⟩ = some (.int .i64 a.magic) ∧ Y.cell? ⟨w.heap.size, 3, none⟩ = some (.int .i64 a.echo) ∧ Y.cell? ⟨w.heap.size, 4, none⟩ = some (.int .i64 10) ∧ Y.cell? ⟨w.heap.size, 5, none⟩ = some (.int .i64 2) ∧ Y.cell? ⟨w.heap.size, 6, none⟩ = some (.int .i64 10) ∧ Y.cell? ⟨w.heap.size, 7, none⟩ = some (.int .i64 3)) Y from fun Y hY => by
    have h := (hY.block w.heap.size (lt_of_heap' HZa.out)).trans HZa.out
    exact ⟨cellOf h 0 _ rfl, cellOf h 1 _ rfl, cellOf h 2 _ rfl, cellOf h 3 _ rfl, cellOf h 4 _ rfl, cellOf h 5 _ rfl, cellOf h 6 _ rfl, cellOf h 7 _ rfl⟩)
  have HTNa := Lib.hid (tapeNew_any dl _ _ W.drew (Nums.below HD.out.1 HBa.out.drew) HD.out.2 (by have := HLL.out; omega))
  rw [← HLN.out] at HTNa
  refine wp_region_H (rgH 0 9) (fun Y : World => Y.cell? ⟨w.heap.size, 0, none⟩ = some (.int .i64 a.mru) ∧ Y.cell? ⟨w.heap.size, 1, none⟩ = some (.int .i64 a.auth) ∧ Y.cell? ⟨w.heap.size, 2, none⟩ = some (.int .i64 a.magic) ∧ Y.cell? ⟨w.heap.size, 3, none⟩ = some (.int .i64 a.echo) ∧ Y.cell? ⟨w.heap.size, 4, none⟩ = some (.int .i64 10) ∧ Y.cell? ⟨w.heap.size, 5, none⟩ = some (.int .i64 2) ∧ Y.cell? ⟨w.heap.size, 6, none⟩ = some (.int .i64 10) ∧ Y.cell? ⟨w.heap.size, 7, none⟩ = some (.int .i64 3)) (by kernel_rfl) ?_
  have HSv : (fun Y : World => Y.cell? ⟨w.heap.size, 0, none⟩ = some (.int .i64 a.mru) ∧ Y.cell? ⟨w.heap.size, 1, none⟩ = some (.int .i64 a.auth) ∧ Y.cell? ⟨w.heap.size, 2, none⟩ = some (.int .i64 a.magic) ∧ Y.cell? ⟨w.heap.size, 3, none⟩ = some (.int .i64 a.echo) ∧ Y.cell? ⟨w.heap.size, 4, none⟩ = some (.int .i64 10) ∧ Y.cell? ⟨w.heap.size, 5, none⟩ = some (.int .i64 2) ∧ Y.cell? ⟨w.heap.size, 6, none⟩ = some (.int .i64 10) ∧ Y.cell? ⟨w.heap.size, 7, none⟩ = some (.int .i64 3)) W.drew := HSa.out _ (Below.refl _ _).drew
  refine wpAnyH_at 0 (v := ?vv645) rfl (by kernel_rfl) (by kernel_rfl) (by kernel_rfl) (fun _ _ _ h => h) ?hy645 HSv ?hh645
  case hy645 =>
    refine Or.inl ⟨by rfl, ?_⟩
    intro W hW
    obtain ⟨h0, h1, h2, h3, h4, h5, h6, h7⟩ := hW
    go_simp
    try with_reducible rfl
  simp only [Act.put, List.setIfInBounds_toArray, List.set_cons_zero, List.set_cons_succ]
  refine wpAnyH_at 1 (v := ?vv646) rfl (by kernel_rfl) (by kernel_rfl) (by kernel_rfl) (fun _ _ _ h => h) ?hy646 HSv ?hh646
  case hy646 =>
    refine Or.inl ⟨by rfl, ?_⟩
    intro W hW
    obtain ⟨h0, h1, h2, h3, h4, h5, h6, h7⟩ := hW
    go_simp
    try with_reducible rfl
  simp only [Act.put, List.setIfInBounds_toArray, List.set_cons_zero, List.set_cons_succ]
  refine wpAnyH_1 2 rfl (by kernel_rfl) ?_
  intro K hK
  rw [if_pos (by rfl)]
  try go_simp
  go_at_call 13
  refine HTNa.out.mono ?_
  rintro e wat ⟨tba, rfl, ta, sa, bta⟩
  have HBta := Lib.hid (show Below W.heap.size W wat from Below.trans (Below.refl _ _).drew bta)
  have HTa := Lib.hid (And.intro ta sa)
  have HSv : (fun Y : World => Y.cell? ⟨w.heap.size, 0, none⟩ = some (.int .i64 a.mru) ∧ Y.cell? ⟨w.heap.size, 1, none⟩ = some (.int .i64 a.auth) ∧ Y.cell? ⟨w.heap.size, 2, none⟩ = some (.int .i64 a.magic) ∧ Y.cell? ⟨w.heap.size, 3, none⟩ = some (.int .i64 a.echo) ∧ Y.cell? ⟨w.heap.size, 4, none⟩ = some (.int .i64 10) ∧ Y.cell? ⟨w.heap.size, 5, none⟩ = some (.int .i64 2) ∧ Y.cell? ⟨w.heap.size, 6, none⟩ = some (.int .i64 10) ∧ Y.cell? ⟨w.heap.size, 7, none⟩ = some (.int .i64 3)) wat := HSa.out _ HBta.out
  clear ta sa bta
  refine hK _ _ (fun _ => HSv) ?_
  try simp only [Act.put, List.setIfInBounds_toArray, List.set_cons_zero, List.set_cons_succ]
  refine wpAnyH_1 3 rfl (by kernel_rfl) ?_
  intro K hK
  rw [if_pos (by rfl)]
  try go_simp
  go_at_call 12
  refine (HNa.out _ wat).mono ?_
  rintro e wa ⟨rfl, bfa⟩
  have hba : Below W.heap.size W wa := HBta.out.trans (bfa.mono HBta.out.size)
  clear bfa
  have HSv : (fun Y : World => Y.cell? ⟨w.heap.size, 0, none⟩ = some (.int .i64 a.mru) ∧ Y.cell? ⟨w.heap.size, 1, none⟩ = some (.int .i64 a.auth) ∧ Y.cell? ⟨w.heap.size, 2, none⟩ = some (.int .i64 a.magic) ∧ Y.cell? ⟨w.heap.size, 3, none⟩ = some (.int .i64 a.echo) ∧ Y.cell? ⟨w.heap.size, 4, none⟩ = some (.int .i64 10) ∧ Y.cell? ⟨w.heap.size, 5, none⟩ = some (.int .i64 2) ∧ Y.cell? ⟨w.heap.size, 6, none⟩ = some (.int .i64 10) ∧ Y.cell? ⟨w.heap.size, 7, none⟩ = some (.int .i64 3)) wa := HSa.out _ hba
  have HEa := Lib.hid hba
  clear hba
  refine hK _ _ (fun _ => HSv) ?_
  try simp only [Act.put, List.setIfInBounds_toArray, List.set_cons_zero, List.set_cons_succ]
  refine wpAnyH_at 4 (v := ?vv647) rfl (by kernel_rfl) (by kernel_rfl) (by kernel_rfl) (fun _ _ _ h => h) ?hy647 HSv ?hh647
  case hy647 =>
    refine Or.inl ⟨by rfl, ?_⟩
    intro W hW
    obtain ⟨h0, h1, h2, h3, h4, h5, h6, h7⟩ := hW
    go_simp
    try with_reducible rfl
  simp only [Act.put, List.setIfInBounds_toArray, List.set_cons_zero, List.set_cons_succ]
  refine wpAnyH_at 5 (v := ?vv648) rfl (by kernel_rfl) (by kernel_rfl) (by kernel_rfl) (fun _ _ _ h => h) ?hy648 HSv ?hh648
  case hy648 =>
    refine Or.inl ⟨by rfl, ?_⟩
    intro W hW
    obtain ⟨h0, h1, h2, h3, h4, h5, h6, h7⟩ := hW
    go_simp
    try with_reducible rfl
  simp only [Act.put, List.setIfInBounds_toArray, List.set_cons_zero, List.set_cons_succ]
  refine wpAnyH_at 7 (v := ?vv649) rfl (by kernel_rfl) (by kernel_rfl) (by kernel_rfl) (fun _ _ _ h => h) ?hy649 HSv ?hh649
  case hy649 =>
    refine Or.inl ⟨by rfl, ?_⟩
    intro W hW
    obtain ⟨h0, h1, h2, h3, h4, h5, h6, h7⟩ := hW
    go_simp
    try with_reducible rfl
  simp only [Act.put, List.setIfInBounds_toArray, List.set_cons_zero, List.set_cons_succ]
  refine wpAnyH_at 6 (v := ?vv650) rfl (by kernel_rfl) (by kernel_rfl) (by kernel_rfl) (fun _ _ _ h => h) ?hy650 HSv ?hh650
  case hy650 =>
    refine Or.inl ⟨by rfl, ?_⟩
    intro W hW
    obtain ⟨h0, h1, h2, h3, h4, h5, h6, h7⟩ := hW
    go_simp
    try with_reducible rfl
  simp only [Act.put, List.setIfInBounds_toArray, List.set_cons_zero, List.set_cons_succ]
  refine wpAnyH_at 8 (v := ?vv651) rfl (by kernel_rfl) (by kernel_rfl) (by kernel_rfl) (fun _ _ _ h => h) ?hy651 HSv ?hh651
  case hy651 =>
    refine Or.inl ⟨by rfl, ?_⟩
    intro W hW
    obtain ⟨h0, h1, h2, h3, h4, h5, h6, h7⟩ := hW
    go_simp
    try with_reducible rfl
  simp only [Act.put, List.setIfInBounds_toArray, List.set_cons_zero, List.set_cons_succ]
  refine wpAnyH_end 9 (fun j hj => rgH_end _ _ j (by omega)) (by rfl) (by kernel_rfl) ?_
  simp only [List.drop_succ_cons, List.drop_zero]
  clear HSv HTNa HSa HBta HTa
  have HZb := Lib.hid ((HEa.out.block (w.heap.size + 1) (lt_of_heap' HZW.out)).trans HZW.out)
  have HBb := Lib.hid (HBW.out.trans (HEa.out.mono HBW.out.size))
  go_wp2_with fail
  have HSb := Lib.hid (show ∀ Y, Below wa.heap.size wa Y → (fun Y : World => Y.cell? ⟨(w.heap.size + 1), 0, none⟩ = some (.int .i64 b.mru) ∧ Y.cell? ⟨(w.heap.size + 1), 1, none⟩ = some (.int .i64 0) ∧ Y.cell? ⟨(w.heap.size + 1), 2, none⟩ = some (.int .i64 b.magic) ∧ Y.cell? ⟨(w.heap.size + 1), 3, none⟩ = some (.int .i64 b.echo) ∧ Y.cell? ⟨(w.heap.size + 1), 4, none⟩ = some (.int .i64 10) ∧ Y.cell? ⟨(w.heap.size + 1), 5, none⟩ = some (.int .i64 2) ∧ Y.cell? ⟨(w.heap.size + 1), 6, none⟩ = some (.int .i64 10) ∧ Y.cell? ⟨(w.heap.size + 1), 7, none⟩ = some (.int .i64 3)) Y from fun Y hY => by
    have h := (hY.block (w.heap.size + 1) (lt_of_heap' HZb.out)).trans HZb.out
    exact ⟨cellOf h 0 _ rfl, cellOf h 1 _ rfl, cellOf h 2 _ rfl, cellOf h 3 _ rfl, cellOf h 4 _ rfl, cellOf h 5 _ rfl, cellOf h 6 _ rfl, cellOf h 7 _ rfl⟩)
  have HTNb := Lib.hid (tapeNew_any dl _ _ wa.drew (Nums.below HD.out.1 HBb.out.drew) HD.out.2 (by have := HLL.out; omega))
  rw [← HLN.out] at HTNb
  refine wp_region_H (rgH 0 9) (fun Y : World => Y.cell? ⟨(w.heap.size + 1), 0, none⟩ = some (.int .i64 b.mru) ∧ Y.cell? ⟨(w.heap.size + 1), 1, none⟩ = some (.int .i64 0) ∧ Y.cell? ⟨(w.heap.size + 1), 2, none⟩ = some (.int .i64 b.magic) ∧ Y.cell? ⟨(w.heap.size + 1), 3, none⟩ = some (.int .i64 b.echo) ∧ Y.cell? ⟨(w.heap.size + 1), 4, none⟩ = some (.int .i64 10) ∧ Y.cell? ⟨(w.heap.size + 1), 5, none⟩ = some (.int .i64 2) ∧ Y.cell? ⟨(w.heap.size + 1), 6, none⟩ = some (.int .i64 10) ∧ Y.cell? ⟨(w.heap.size + 1), 7, none⟩ = some (.int .i64 3)) (by kernel_rfl) ?_
  have HSv : (fun Y : World => Y.cell? ⟨(w.heap.size + 1), 0, none⟩ = some (.int .i64 b.mru) ∧ Y.cell? ⟨(w.heap.size + 1), 1, none⟩ = some (.int .i64 0) ∧ Y.cell? ⟨(w.heap.size + 1), 2, none⟩ = some (.int .i64 b.magic) ∧ Y.cell? ⟨(w.heap.size + 1), 3, none⟩ = some (.int .i64 b.echo) ∧ Y.cell? ⟨(w.heap.size + 1), 4, none⟩ = some (.int .i64 10) ∧ Y.cell? ⟨(w.heap.size + 1), 5, none⟩ = some (.int .i64 2) ∧ Y.cell? ⟨(w.heap.size + 1), 6, none⟩ = some (.int .i64 10) ∧ Y.cell? ⟨(w.heap.size + 1), 7, none⟩ = some (.int .i64 3)) wa.drew := HSb.out _ (Below.refl _ _).drew
  refine wpAnyH_at 0 (v := ?vv652) rfl (by kernel_rfl) (by kernel_rfl) (by kernel_rfl) (fun _ _ _ h => h) ?hy652 HSv ?hh652
  case hy652 =>
    refine Or.inl ⟨by rfl, ?_⟩
    intro W hW
    obtain ⟨h0, h1, h2, h3, h4, h5, h6, h7⟩ := hW
    go_simp
    try with_reducible rfl
  simp only [Act.put, List.setIfInBounds_toArray, List.set_cons_zero, List.set_cons_succ]
  refine wpAnyH_at 1 (v := ?vv653) rfl (by kernel_rfl) (by kernel_rfl) (by kernel_rfl) (fun _ _ _ h => h) ?hy653 HSv ?hh653
  case hy653 =>
    refine Or.inl ⟨by rfl, ?_⟩
    intro W hW
    obtain ⟨h0, h1, h2, h3, h4, h5, h6, h7⟩ := hW
    go_simp
    try with_reducible rfl
  simp only [Act.put, List.setIfInBounds_toArray, List.set_cons_zero, List.set_cons_succ]
  refine wpAnyH_1 2 rfl (by kernel_rfl) ?_
  intro K hK
  rw [if_pos (by rfl)]
  try go_simp
  go_at_call 13
  refine HTNb.out.mono ?_
  rintro e wbt ⟨tbb, rfl, tb, sb, btb⟩
  have HBtb := Lib.hid (show Below wa.heap.size wa wbt from Below.trans (Below.refl _ _).drew btb)
  have HTb := Lib.hid (And.intro tb sb)
  have HSv : (fun Y : World => Y.cell? ⟨(w.heap.size + 1), 0, none⟩ = some (.int .i64 b.mru) ∧ Y.cell? ⟨(w.heap.size + 1), 1, none⟩ = some (.int .i64 0) ∧ Y.cell? ⟨(w.heap.size + 1), 2, none⟩ = some (.int .i64 b.magic) ∧ Y.cell? ⟨(w.heap.size + 1), 3, none⟩ = some (.int .i64 b.echo) ∧ Y.cell? ⟨(w.heap.size + 1), 4, none⟩ = some (.int .i64 10) ∧ Y.cell? ⟨(w.heap.size + 1), 5, none⟩ = some (.int .i64 2) ∧ Y.cell? ⟨(w.heap.size + 1), 6, none⟩ = some (.int .i64 10) ∧ Y.cell? ⟨(w.heap.size + 1), 7, none⟩ = some (.int .i64 3)) wbt := HSb.out _ HBtb.out
  clear tb sb btb
  refine hK _ _ (fun _ => HSv) ?_
  try simp only [Act.put, List.setIfInBounds_toArray, List.set_cons_zero, List.set_cons_succ]
  refine wpAnyH_1 3 rfl (by kernel_rfl) ?_
  intro K hK
  rw [if_pos (by rfl)]
  try go_simp
  go_at_call 12
  refine (HNb.out _ wbt).mono ?_
  rintro e wb ⟨rfl, bfb⟩
  have hbb : Below wa.heap.size wa wb := HBtb.out.trans (bfb.mono HBtb.out.size)
  clear bfb
  have HSv : (fun Y : World => Y.cell? ⟨(w.heap.size + 1), 0, none⟩ = some (.int .i64 b.mru) ∧ Y.cell? ⟨(w.heap.size + 1), 1, none⟩ = some (.int .i64 0) ∧ Y.cell? ⟨(w.heap.size + 1), 2, none⟩ = some (.int .i64 b.magic) ∧ Y.cell? ⟨(w.heap.size + 1), 3, none⟩ = some (.int .i64 b.echo) ∧ Y.cell? ⟨(w.heap.size + 1), 4, none⟩ = some (.int .i64 10) ∧ Y.cell? ⟨(w.heap.size + 1), 5, none⟩ = some (.int .i64 2) ∧ Y.cell? ⟨(w.heap.size + 1), 6, none⟩ = some (.int .i64 10) ∧ Y.cell? ⟨(w.heap.size + 1), 7, none⟩ = some (.int .i64 3)) wb := HSb.out _ hbb
  have HEb := Lib.hid hbb
  clear hbb
  refine hK _ _ (fun _ => HSv) ?_
  try simp only [Act.put, List.setIfInBounds_toArray, List.set_cons_zero, List.set_cons_succ]
  refine wpAnyH_at 4 (v := ?vv654) rfl (by kernel_rfl) (by kernel_rfl) (by kernel_rfl) (fun _ _ _ h => h) ?hy654 HSv ?hh654
  case hy654 =>
    refine Or.inl ⟨by rfl, ?_⟩
    intro W hW
    obtain ⟨h0, h1, h2, h3, h4, h5, h6, h7⟩ := hW
    go_simp
    try with_reducible rfl
  simp only [Act.put, List.setIfInBounds_toArray, List.set_cons_zero, List.set_cons_succ]
  refine wpAnyH_at 5 (v := ?vv655) rfl (by kernel_rfl) (by kernel_rfl) (by kernel_rfl) (fun _ _ _ h => h) ?hy655 HSv ?hh655
  case hy655 =>
    refine Or.inl ⟨by rfl, ?_⟩
    intro W hW
    obtain ⟨h0, h1, h2, h3, h4, h5, h6, h7⟩ := hW
    go_simp
    try with_reducible rfl
  simp only [Act.put, List.setIfInBounds_toArray, List.set_cons_zero, List.set_cons_succ]
  refine wpAnyH_at 7 (v := ?vv656) rfl (by kernel_rfl) (by kernel_rfl) (by kernel_rfl) (fun _ _ _ h => h) ?hy656 HSv ?hh656
  case hy656 =>
    refine Or.inl ⟨by rfl, ?_⟩
    intro W hW
    obtain ⟨h0, h1, h2, h3, h4, h5, h6, h7⟩ := hW
    go_simp
    try with_reducible rfl
  simp only [Act.put, List.setIfInBounds_toArray, List.set_cons_zero, List.set_cons_succ]
  refine wpAnyH_at 6 (v := ?vv657) rfl (by kernel_rfl) (by kernel_rfl) (by kernel_rfl) (fun _ _ _ h => h) ?hy657 HSv ?hh657
  case hy657 =>
    refine Or.inl ⟨by rfl, ?_⟩
    intro W hW
    obtain ⟨h0, h1, h2, h3, h4, h5, h6, h7⟩ := hW
    go_simp
    try with_reducible rfl
  simp only [Act.put, List.setIfInBounds_toArray, List.set_cons_zero, List.set_cons_succ]
  refine wpAnyH_at 8 (v := ?vv658) rfl (by kernel_rfl) (by kernel_rfl) (by kernel_rfl) (fun _ _ _ h => h) ?hy658 HSv ?hh658
  case hy658 =>
    refine Or.inl ⟨by rfl, ?_⟩
    intro W hW
    obtain ⟨h0, h1, h2, h3, h4, h5, h6, h7⟩ := hW
    go_simp
    try with_reducible rfl
  simp only [Act.put, List.setIfInBounds_toArray, List.set_cons_zero, List.set_cons_succ]
  refine wpAnyH_end 9 (fun j hj => rgH_end _ _ j (by omega)) (by rfl) (by kernel_rfl) ?_
  simp only [List.drop_succ_cons, List.drop_zero]
  clear HSv HTNb HSb HBtb HTb
  have HBF := Lib.hid (HBb.out.trans (HEb.out.mono HBb.out.size))
  go_wp2_with (go_at_call 11; refine (HAL.out _).mono ?_; rintro e w8 ⟨rfl, b8⟩)
  go_ret
  exact ⟨rfl, HBF.out.trans (b8.mono HBF.out.size)⟩

set_option maxHeartbeats 16000000 in
set_option maxRecDepth 100000 in
theorem lcpMeets_any (a b : LCfg) (haa : I64 a.auth) (dl : List Int) (dv : Value) (w : World) (hd : Nums w (fun _ => True) dv dl) (hi : ∀ x ∈ dl, I64 x) :
    Calls Tryz.prog 7 #[cfgV a, cfgV b, dv] w fun e w' => e = .returned (.bool true) ∧ Below w.heap.size w w' := by
  by_cases hm : a.magic = b.magic
  · have HAL := Lib.hid lalive_any
    obtain ⟨sa, ca, rfl, hca, hcm⟩ := hd.form
    have em : (a.magic == b.magic) = true := by simpa using hm
    unfold maxLen at hcm
    unfold cfgV
    clear hm hd hi
    generalize dl.length = len at *
    go_enter Tryz.func7, Tryz.ntmps7
    go_wp2_with (go_at_call 11; refine (HAL.out _).mono ?_; rintro e w8 ⟨rfl, b8⟩)
    go_ret
    have hbw := ((Below.refl w.heap.size w).alloc (Nat.le_refl _) (.cells #[.int .i64 a.mru, .int .i64 a.auth, .int .i64 a.magic, .int .i64 a.echo, .int .i64 10, .int .i64 2, .int .i64 10, .int .i64 3] 24 (0, 0))).alloc (by rw [alloc1]; omega) (.cells #[.int .i64 b.mru, .int .i64 0, .int .i64 b.magic, .int .i64 b.echo, .int .i64 10, .int .i64 2, .int .i64 10, .int .i64 3] 24 (0, 0))
    exact ⟨rfl, hbw.trans (b8.mono hbw.size)⟩
  · by_cases h100 : 100 < dl.length
    · have HAL := Lib.hid lalive_any
      obtain ⟨sa, ca, rfl, hca, hcm⟩ := hd.form
      have em : (a.magic == b.magic) = false := by simpa using hm
      have e100 : decide ((100 : Int) < (dl.length : Int)) = true := by simp; omega
      unfold maxLen at hcm
      unfold cfgV
      clear hm hd hi h100
      generalize dl.length = len at *
      go_enter Tryz.func7, Tryz.ntmps7
      go_wp2_with (go_at_call 11; refine (HAL.out _).mono ?_; rintro e w8 ⟨rfl, b8⟩)
      go_ret
      have hbw := ((Below.refl w.heap.size w).alloc (Nat.le_refl _) (.cells #[.int .i64 a.mru, .int .i64 a.auth, .int .i64 a.magic, .int .i64 a.echo, .int .i64 10, .int .i64 2, .int .i64 10, .int .i64 3] 24 (0, 0))).alloc (by rw [alloc1]; omega) (.cells #[.int .i64 b.mru, .int .i64 0, .int .i64 b.magic, .int .i64 b.echo, .int .i64 10, .int .i64 2, .int .i64 10, .int .i64 3] 24 (0, 0))
      exact ⟨rfl, hbw.trans (b8.mono hbw.size)⟩
    · have hI0 : I64 (bM b).auth := by show I64 0; unfold I64; decide
      have dec : ∀ c : LCfg, c.cf = 10 → c.tm = 2 → c.fl = 10 → c.wt = 3 → c.Ok ∨ lcfgBad c := by
        intro c h1 h2 h3 h4
        by_cases hb : lcfgBad c
        · exact .inr hb
        · left
          unfold lcfgBad at hb
          exact ⟨by omega, by omega, by omega, by omega, by rw [h1]; decide, by rw [h2]; decide, by rw [h3]; decide, by rw [h4]; decide⟩
      rcases dec (aM a) rfl rfl rfl rfl with hoa | hba <;> rcases dec (bM b) rfl rfl rfl rfl with hob | hbb
      · exact meets_ok a b hoa hob hm dl dv w hd hi (by omega)
      · exact meets_of a b hoa hI0 hbb hm dl dv w hd hi (by omega)
      · exact meets_fo a b haa hba hob hm dl dv w hd hi (by omega)
      · exact meets_ff a b haa hba hI0 hbb hm dl dv w hd hi (by omega)
end Go.Proofs.YthhdackaopaojaaGreat
