import Derived.Test.YthhdackaopaojaaGreatK23
/- A link that hears itself: the plain law. -/
namespace Go.Proofs.YthhdackaopaojaaGreat
open Go.RowKit Go.Tg Go.Maps

/-- The config of the law: it asks for a magic number alone. -/
def cfgL (m : Int) : LCfg := ⟨1492, 0, m, 0, 5, 2, 5, 3⟩
def CL (lb : Nat) : NegC := ⟨[unitR 1492, magicR], [], [3], 5, 2, 5, 3, judgeV lb⟩
theorem lC_cfgL (m : Int) (lb : Nat) : lC (cfgL m) lb = CL lb := rfl
theorem optsL (m : Int) (hm : m ≠ 0) : optsS (cfgL m) = [⟨5, pB4 m⟩] := by
  unfold optsS optsS2 optsS1 cfgL
  simp [hm]
theorem bytesV (a b c d : Int) (ha : 0 ≤ a ∧ a < 256) (hb : 0 ≤ b ∧ b < 256) (hc : 0 ≤ c ∧ c < 256) (hd : 0 ≤ d ∧ d < 256) : (⟨#[byteOf a, byteOf b, byteOf c, byteOf d]⟩ : ByteArray) = pB4 (a * 16777216 + b * 65536 + c * 256 + d) := by
  unfold pB4
  rw [show (a * 16777216 + b * 65536 + c * 256 + d) / 16777216 % 256 = a from by omega, show (a * 16777216 + b * 65536 + c * 256 + d) / 65536 % 256 = b from by omega, show (a * 16777216 + b * 65536 + c * 256 + d) / 256 % 256 = c from by omega, show (a * 16777216 + b * 65536 + c * 256 + d) % 256 = d from by omega]
theorem pB4_val' (x : Int) (h : 0 ≤ x ∧ x < 4294967296) : valB (pB4 x).data.toList = x := by
  have e : (pB4 x).data.toList = [byteOf (x / 16777216 % 256), byteOf (x / 65536 % 256), byteOf (x / 256 % 256), byteOf (x % 256)] := rfl
  rw [e]
  simp only [valB, List.foldl_cons, List.foldl_nil]
  rw [byteOf_nat _ (md _), byteOf_nat _ (md _), byteOf_nat _ (md _), byteOf_nat _ (md _)]
  omega
/-- What is named instead of a magic number is one. -/
theorem insteadL5 (t : TpS) : ∃ m' t', insteadL t 5 = (pB4 m', t') ∧ 1 ≤ m' ∧ m' < 4294967296 := by
  have hI : insteadL t 5 = (if (tp4 t).1 = pB4 0 then pB4 1 else (tp4 t).1, (tp4 t).2) := rfl
  rw [hI]
  by_cases h : (tp4 t).1 = pB4 0
  · exact ⟨1, _, by rw [if_pos h], by decide, by decide⟩
  · rw [if_neg h]
    have e : (tp4 t).1 = ⟨#[byteOf (tpNext t).1, byteOf (tpNext (tpNext t).2).1, byteOf (tpNext (tpNext (tpNext t).2).2).1, byteOf (tpNext (tpNext (tpNext (tpNext t).2).2).2).1]⟩ := rfl
    have b1 := tpNext_bd t
    have b2 := tpNext_bd (tpNext t).2
    have b3 := tpNext_bd (tpNext (tpNext t).2).2
    have b4 := tpNext_bd (tpNext (tpNext (tpNext t).2).2).2
    rw [bytesV _ _ _ _ b1 b2 b3 b4] at e
    refine ⟨_, _, Prod.ext e rfl, ?_, by omega⟩
    by_cases h0 : (tpNext t).1 * 16777216 + (tpNext (tpNext t).2).1 * 65536 + (tpNext (tpNext (tpNext t).2).2).1 * 256 + (tpNext (tpNext (tpNext (tpNext t).2).2).2).1 = 0
    · rw [h0] at e; exact absurd e h
    · omega
theorem loop5 (m : Int) (hm : m ≠ 0) : loopS m ⟨5, pB4 m⟩ = true := by
  unfold loopS
  simp [hm]
theorem judge5 (m : Int) (hm : m ≠ 0) (t : TpS) : ljudgeS m t [⟨5, pB4 m⟩] = ((3, [⟨5, (insteadL t 5).1⟩]), (insteadL t 5).2) := by
  have hf : lfitsS m ⟨5, pB4 m⟩ = false := by
    have e : lfitsS m ⟨5, pB4 m⟩ = (fitsR magicR (pB4 m) && !loopS m ⟨5, pB4 m⟩) := rfl
    rw [e, loop5 m hm]; simp
  have hr : rejP lhas [] [⟨5, pB4 m⟩] = [] := rfl
  have hn : nakQ (lfitsS m) insteadL t [⟨5, pB4 m⟩] = ([⟨5, (insteadL t 5).1⟩], (insteadL t 5).2) := by
    unfold nakQ
    simp only [List.foldl_cons, List.foldl_nil, hf, Bool.false_eq_true, if_false, List.nil_append]
  unfold ljudgeS answerQ
  rw [hr, hn]
  rfl
theorem fits5 (m : Int) (h1 : 1 ≤ m) (h2 : m < 4294967296) : fitsR magicR (pB4 m) = true := by
  have e : (pB4 m).data.toList.take 7 = (pB4 m).data.toList := rfl
  unfold fitsR
  rw [e, pB4_val' m ⟨by omega, h2⟩]
  have d1 : decide (magicR.min ≤ m) = true := decide_eq_true (show (1 : Int) ≤ m from h1)
  have d2 : decide (m ≤ magicR.max) = true := decide_eq_true (show m ≤ (4294967295 : Int) by omega)
  have d3 : decide (((pB4 m).size : Int) = magicR.len) = true := decide_eq_true (show ((4 : Nat) : Int) = 4 from rfl)
  rw [d1, d2, d3]; rfl
theorem name5 (lb : Nat) (m m' : Int) (h1 : 1 ≤ m') (h2 : m' < 4294967296) : ([⟨5, pB4 m'⟩] : List Opt).foldl (nameOne (CL lb)) [⟨5, pB4 m⟩] = [⟨5, pB4 m'⟩] := by
  have hi : idxP (fun x : Opt => x.t == 5) [⟨5, pB4 m⟩] = 0 := rfl
  have hf : ((findR (CL lb).own 5).isSome && fitsR (ruleOf (CL lb).own 5) (pB4 m')) = true := by
    have e : ruleOf (CL lb).own 5 = magicR := rfl
    have e2 : (findR (CL lb).own 5).isSome = true := rfl
    rw [e, e2, fits5 m' h1 h2]; rfl
  show nameOne (CL lb) [⟨5, pB4 m⟩] ⟨5, pB4 m'⟩ = _
  unfold nameOne
  dsimp only
  rw [hi, if_neg (by decide), if_pos hf]
  rfl

/-! ### The states -/
def stA (k m : Int) : NSt := ⟨6, 4, k + 1, k + 1, k, 0, [⟨5, pB4 m⟩], [], [], 0, 0⟩
def stB (k m : Int) : NSt := ⟨6, 4, k, k, k, 0, [⟨5, pB4 m⟩], [], [], 0, 0⟩
def lsA (k m : Int) (t : TpS) : LSt := ⟨stA k m, m, k, 0, 0, t⟩
def lsB (k m : Int) (t : TpS) : LSt := ⟨stB k m, m, k, 0, 0, t⟩
def pkA (k m : Int) : Pk := ⟨1, k + 1, [⟨5, pB4 m⟩], noB⟩
def pkB (k m' : Int) : Pk := ⟨3, k, [⟨5, pB4 m'⟩], noB⟩
theorem eUp (lb : Nat) (m : Int) (hm : m ≠ 0) (t : TpS) : doL (CL lb) (doL (CL lb) (lst0 (cfgL m) t) 2).1 0 = (lsA 0 m t, [pkA 0 m]) := by
  unfold lst0
  rw [optsL m hm]
  kernel_rfl
theorem req0 (lb : Nat) (m m' : Int) : reqS rejS (CL lb) (stA 0 m) (pkA 0 m) (3, [⟨5, pB4 m'⟩]) = (stB 1 m, [pkB 1 m']) := by kernel_rfl
theorem req1 (lb : Nat) (m m' : Int) : reqS rejS (CL lb) (stA 1 m) (pkA 1 m) (3, [⟨5, pB4 m'⟩]) = (stB 2 m, [pkB 2 m']) := by kernel_rfl
theorem req2 (lb : Nat) (m m' : Int) : reqS rejS (CL lb) (stA 2 m) (pkA 2 m) (3, [⟨5, pB4 m'⟩]) = (stB 3 m, [pkB 3 m']) := by kernel_rfl
theorem nam1 (lb : Nat) (m m' : Int) : evS rejS (CL lb) { stB 1 m with req := [⟨5, pB4 m'⟩] } 9 ⟨true, pkB 1 m', 0, []⟩ = (stA 1 m', [pkA 1 m']) := by kernel_rfl
theorem nam2 (lb : Nat) (m m' : Int) : evS rejS (CL lb) { stB 2 m with req := [⟨5, pB4 m'⟩] } 9 ⟨true, pkB 2 m', 0, []⟩ = (stA 2 m', [pkA 2 m']) := by kernel_rfl
theorem nam3 (lb : Nat) (m m' : Int) : evS rejS (CL lb) { stB 3 m with req := [⟨5, pB4 m'⟩] } 9 ⟨true, pkB 3 m', 0, []⟩ = (stA 3 m', [pkA 3 m']) := by kernel_rfl
end Go.Proofs.YthhdackaopaojaaGreat

/- A link that hears itself: its orbit. -/
namespace Go.Proofs.YthhdackaopaojaaGreat
open Go.RowKit Go.Tg Go.Maps

def stC (m : Int) : NSt := ⟨4, 1, 5, 4, 3, 0, [⟨5, pB4 m⟩], [], [], 0, 0⟩
def stE (m : Int) : NSt := ⟨2, 1, 5, 4, 3, 0, [⟨5, pB4 m⟩], [], [], 0, 0⟩
def lsC (m : Int) (t : TpS) : LSt := ⟨stC m, m, 4, 0, 0, t⟩
def lsE (m : Int) (t : TpS) : LSt := ⟨stE m, m, 4, 0, 0, t⟩
def pkC : Pk := ⟨5, 5, [], noB⟩
def pkD : Pk := ⟨6, 5, [], noB⟩
theorem sync5 (s : LSt) (m : Int) (h : 0 ≤ m ∧ m < 4294967296) (hr : s.st.req = [⟨5, pB4 m⟩]) (ho : s.own = m) : s.Sync := by
  intro o hf
  rw [hr] at hf
  have : o = ⟨5, pB4 m⟩ := by have : some o = some ⟨5, pB4 m⟩ := hf.symm; exact Option.some.inj this
  subst this
  exact ⟨by show (4 : Nat) ≤ 7; decide, by rw [pB4_val' m h, ho]⟩
theorem syncTo (s : LSt) (m : Int) (h : 0 ≤ m ∧ m < 4294967296) (hr : s.st.req = [⟨5, pB4 m⟩]) : syncS s = { s with own := m } := by
  unfold syncS
  rw [hr]
  have : findO [⟨5, pB4 m⟩] 5 = some ⟨5, pB4 m⟩ := rfl
  rw [this]
  dsimp only
  rw [pB4_val' m h]
theorem loopedA (k m : Int) (hm : m ≠ 0) : loopedS m (pkA k m) = true := by
  unfold loopedS pkA
  simp [loop5 m hm]

theorem ltakeN_1 {C : NegC} {s : LSt} {p : Pk} (h : p.code = 1) : ltakeN C s p = ({ s with st := (reqS rejS C s.st p (ljudgeS s.own s.t p.o).1).1, t := (ljudgeS s.own s.t p.o).2 }, (reqS rejS C s.st p (ljudgeS s.own s.t p.o).1).2) := by unfold ltakeN; exact if_pos h
theorem ltakeN_n {C : NegC} {s : LSt} {p : Pk} (h : p.code ≠ 1) : ltakeN C s p = ({ s with st := (takeS C s.st p).1 }, (takeS C s.st p).2) := by unfold ltakeN; exact if_neg h
theorem ltakeS_t {C : NegC} {s : LSt} {p : Pk} (h : loopedS s.own p = true) (h4 : ¬ 4 ≤ wrap64 (s.loops + 1)) : ltakeS C s p = (syncS (anewS s.st.ups (ltakeN C { s with loops := wrap64 (s.loops + 1) } p).1), (ltakeN C { s with loops := wrap64 (s.loops + 1) } p).2) := by
  unfold ltakeS; exact (if_pos h).trans (if_neg h4)
theorem ltakeS_4 {C : NegC} {s : LSt} {p : Pk} (h : loopedS s.own p = true) (h4 : 4 ≤ wrap64 (s.loops + 1)) : ltakeS C s p = doL C { s with loops := wrap64 (s.loops + 1) } 3 := by
  unfold ltakeS; exact (if_pos h).trans (if_pos h4)
theorem ltakeS_f {C : NegC} {s : LSt} {p : Pk} (h : loopedS s.own p = false) : ltakeS C s p = (syncS (anewS s.st.ups (ltakeN C s p).1), (ltakeN C s p).2) := by
  unfold ltakeS; exact if_neg (by rw [h]; decide)
theorem takeS_3 {C : NegC} {st : NSt} {p : Pk} (hc : p.code = 3) (hi : p.id = st.asked) : takeS C st p = namedS rejS C st p := by
  unfold takeS
  exact (if_neg (by omega)).trans ((if_neg (by omega)).trans ((if_pos (.inl hc)).trans ((if_pos hi).trans (if_pos hc))))
theorem anewS_id {u : Int} {s : LSt} (h : s.st.ups = u) : anewS u s = s := by unfold anewS; exact if_pos h

theorem ltA (lb : Nat) (k k1 m m' : Int) (t t' : TpS) (hm : 1 ≤ m ∧ m < 4294967296) (hi : insteadL t 5 = (pB4 m', t')) (hk : wrap64 (k + 1) = k1) (h4 : ¬ 4 ≤ k1)
    (hr : reqS rejS (CL lb) (stA k m) (pkA k m) (3, [⟨5, pB4 m'⟩]) = (stB k1 m, [pkB k1 m'])) : ltakeS (CL lb) (lsA k m t) (pkA k m) = (lsB k1 m t', [pkB k1 m']) := by
  have hj : ljudgeS m t [⟨5, pB4 m⟩] = ((3, [⟨5, pB4 m'⟩]), t') := by rw [judge5 m (by omega) t, hi]
  have hN : ltakeN (CL lb) ⟨stA k m, m, k1, 0, 0, t⟩ (pkA k m) = (lsB k1 m t', [pkB k1 m']) := by
    have h := ltakeN_1 (C := CL lb) (s := ⟨stA k m, m, k1, 0, 0, t⟩) (p := pkA k m) rfl
    dsimp only at h
    rw [show (pkA k m).o = [⟨5, pB4 m⟩] from rfl, hj, hr] at h
    exact h
  have h := ltakeS_t (C := CL lb) (s := lsA k m t) (p := pkA k m) (loopedA k m (by omega)) (by rw [show (lsA k m t).loops = k from rfl, hk]; exact h4)
  rw [show (lsA k m t).loops = k from rfl, hk, show ({ lsA k m t with loops := k1 } : LSt) = ⟨stA k m, m, k1, 0, 0, t⟩ from rfl, hN] at h
  rw [h]
  dsimp only
  rw [anewS_id (show (lsB k1 m t').st.ups = (lsA k m t).st.ups from rfl), syncTo _ m ⟨by omega, hm.2⟩ rfl]
  rfl
theorem namedB (lb : Nat) (k m m' : Int) (hm : 1 ≤ m' ∧ m' < 4294967296) : namedS rejS (CL lb) (stB k m) (pkB k m') = evS rejS (CL lb) { stB k m with req := [⟨5, pB4 m'⟩] } 9 ⟨true, pkB k m', 0, []⟩ := by
  have h := name5 lb m m' hm.1 hm.2
  have e : namedS rejS (CL lb) (stB k m) (pkB k m') = evS rejS (CL lb) { stB k m with req := ([⟨5, pB4 m'⟩] : List Opt).foldl (nameOne (CL lb)) [⟨5, pB4 m⟩] } 9 ⟨true, pkB k m', 0, []⟩ := rfl
  rw [e, h]
theorem ltB (lb : Nat) (k m m' : Int) (t : TpS) (hm : 1 ≤ m' ∧ m' < 4294967296) (hn : evS rejS (CL lb) { stB k m with req := [⟨5, pB4 m'⟩] } 9 ⟨true, pkB k m', 0, []⟩ = (stA k m', [pkA k m'])) : ltakeN (CL lb) (lsB k m t) (pkB k m') = (⟨stA k m', m, k, 0, 0, t⟩, [pkA k m']) ∧ ltakeS (CL lb) (lsB k m t) (pkB k m') = (lsA k m' t, [pkA k m']) := by
  have ht : takeS (CL lb) (stB k m) (pkB k m') = (stA k m', [pkA k m']) := by rw [takeS_3 rfl rfl, namedB lb k m m' hm, hn]
  have hN : ltakeN (CL lb) (lsB k m t) (pkB k m') = (⟨stA k m', m, k, 0, 0, t⟩, [pkA k m']) := by
    have h := ltakeN_n (C := CL lb) (s := lsB k m t) (p := pkB k m') (show (3 : Int) ≠ 1 by decide)
    rw [show (lsB k m t).st = stB k m from rfl, ht] at h
    exact h
  refine ⟨hN, ?_⟩
  rw [ltakeS_f (show loopedS (lsB k m t).own (pkB k m') = false from rfl), hN]
  dsimp only
  rw [anewS_id (show (⟨stA k m', m, k, 0, 0, t⟩ : LSt).st.ups = (lsB k m t).st.ups from rfl), syncTo _ m' ⟨by omega, hm.2⟩ rfl]
  rfl
theorem eClose (lb : Nat) (m : Int) (t : TpS) : doL (CL lb) ⟨stA 3 m, m, 4, 0, 0, t⟩ 3 = (lsC m t, [pkC]) := by kernel_rfl
theorem ltA3 (lb : Nat) (m : Int) (t : TpS) (hm : 1 ≤ m ∧ m < 4294967296) : ltakeS (CL lb) (lsA 3 m t) (pkA 3 m) = (lsC m t, [pkC]) := by
  have hw : wrap64 ((lsA 3 m t).loops + 1) = 4 := by show wrap64 (3 + 1) = 4; unfold wrap64; omega
  rw [ltakeS_4 (loopedA 3 m (by omega)) (by rw [hw]; decide), hw]
  exact eClose lb m t
theorem ltC (lb : Nat) (m : Int) (t : TpS) (hm : 1 ≤ m ∧ m < 4294967296) : ltakeS (CL lb) (lsC m t) pkC = (lsC m t, [pkD]) := by
  have hN : ltakeN (CL lb) (lsC m t) pkC = (lsC m t, [pkD]) := by kernel_rfl
  rw [ltakeS_f (show loopedS (lsC m t).own pkC = false from rfl), hN]
  dsimp only
  rw [anewS_id (show (lsC m t).st.ups = (lsC m t).st.ups from rfl), syncTo _ m ⟨by omega, hm.2⟩ rfl]
  rfl
theorem ltD (lb : Nat) (m : Int) (t : TpS) (hm : 1 ≤ m ∧ m < 4294967296) : ltakeS (CL lb) (lsC m t) pkD = (lsE m t, []) := by
  have hN : ltakeN (CL lb) (lsC m t) pkD = (lsE m t, []) := by kernel_rfl
  rw [ltakeS_f (show loopedS (lsC m t).own pkD = false from rfl), hN]
  dsimp only
  rw [anewS_id (show (lsE m t).st.ups = (lsC m t).st.ups from rfl), syncTo _ m ⟨by omega, hm.2⟩ rfl]
  rfl

/-- Where it may be. -/
def Orb (s : LSt) (l : List Pk) : Prop :=
  ∃ m t, (1 ≤ m ∧ m < 4294967296) ∧ ((∃ k, (k = 0 ∨ k = 1 ∨ k = 2 ∨ k = 3) ∧ s = lsA k m t ∧ l = [pkA k m]) ∨ (∃ k m', (k = 1 ∨ k = 2 ∨ k = 3) ∧ (1 ≤ m' ∧ m' < 4294967296) ∧ s = lsB k m t ∧ l = [pkB k m']) ∨
    (s = lsC m t ∧ l = [pkC]) ∨ (s = lsC m t ∧ l = [pkD]) ∨ (s = lsE m t ∧ l = []))
theorem Orb.st {s : LSt} {l : List Pk} (h : Orb s l) : s.st.s ≠ 9 ∧ 0 ≤ s.loops ∧ s.loops ≤ 4 ∧ (l = [] ∨ ∃ p, l = [p]) := by
  obtain ⟨m, t, hm, h | h | h | h | h⟩ := h
  · obtain ⟨k, hk, rfl, rfl⟩ := h
    refine ⟨by show (6 : Int) ≠ 9; decide, ?_, ?_, .inr ⟨_, rfl⟩⟩
    · show 0 ≤ k; omega
    · show k ≤ 4; omega
  · obtain ⟨k, m', hk, hm', rfl, rfl⟩ := h
    refine ⟨by show (6 : Int) ≠ 9; decide, ?_, ?_, .inr ⟨_, rfl⟩⟩
    · show 0 ≤ k; omega
    · show k ≤ 4; omega
  · obtain ⟨rfl, rfl⟩ := h
    exact ⟨by show (4 : Int) ≠ 9; decide, by show (0 : Int) ≤ 4; decide, by show (4 : Int) ≤ 4; decide, .inr ⟨_, rfl⟩⟩
  · obtain ⟨rfl, rfl⟩ := h
    exact ⟨by show (4 : Int) ≠ 9; decide, by show (0 : Int) ≤ 4; decide, by show (4 : Int) ≤ 4; decide, .inr ⟨_, rfl⟩⟩
  · obtain ⟨rfl, rfl⟩ := h
    exact ⟨by show (2 : Int) ≠ 9; decide, by show (0 : Int) ≤ 4; decide, by show (4 : Int) ≤ 4; decide, .inl rfl⟩
theorem one_ok (c i m : Int) : PkOk ⟨c, i, [⟨5, pB4 m⟩], noB⟩ :=
  ⟨by show (1 : Nat) ≤ 1000000; decide, fun o ho => by simp only [List.mem_singleton] at ho; subst ho; show I64 5; unfold I64; decide, fun o ho => by simp only [List.mem_singleton] at ho; subst ho; show (4 : Nat) ≤ 100000; decide, by show (0 : Nat) ≤ 100000000; decide⟩
theorem nil_ok (c i : Int) : PkOk ⟨c, i, [], noB⟩ :=
  ⟨by show (0 : Nat) ≤ 1000000; decide, fun o ho => by (simp only [List.not_mem_nil] at ho), fun o ho => by (simp only [List.not_mem_nil] at ho), by show (0 : Nat) ≤ 100000000; decide⟩
/-- One more packet is heard. -/
theorem Orb.step (lb : Nat) {s : LSt} {p : Pk} (h : Orb s [p]) : s.Sync ∧ PkOk p ∧ p.code ≤ 7 ∧ (∀ o, findO (ltakeN (CL lb) s p).1.st.req 5 = some o → o.v.size ≤ 7) ∧ Orb (ltakeS (CL lb) s p).1 (ltakeS (CL lb) s p).2 := by
  have h7 : ∀ (r : List Opt) (m : Int), r = [⟨5, pB4 m⟩] → ∀ o, findO r 5 = some o → o.v.size ≤ 7 := by
    rintro _ m rfl o ho
    have : o = ⟨5, pB4 m⟩ := by have : some o = some ⟨5, pB4 m⟩ := ho.symm; exact Option.some.inj this
    subst this
    show (4 : Nat) ≤ 7; decide
  obtain ⟨m, t, hm, h | h | h | h | h⟩ := h
  · obtain ⟨k, hk, rfl, hp⟩ := h
    obtain rfl : p = pkA k m := by simpa using hp
    refine ⟨sync5 _ m ⟨by omega, hm.2⟩ rfl rfl, one_ok _ _ _, by show (1 : Int) ≤ 7; decide, h7 _ m (ltakeN_req rfl), ?_⟩
    obtain ⟨m', t', hi, h1, h2⟩ := insteadL5 t
    rcases hk with rfl | rfl | rfl | rfl
    · rw [ltA lb 0 1 m m' t t' hm hi (by unfold wrap64; omega) (by decide) (req0 lb m m')]
      exact ⟨m, t', hm, .inr (.inl ⟨1, m', .inl rfl, ⟨h1, h2⟩, rfl, rfl⟩)⟩
    · rw [ltA lb 1 2 m m' t t' hm hi (by unfold wrap64; omega) (by decide) (req1 lb m m')]
      exact ⟨m, t', hm, .inr (.inl ⟨2, m', .inr (.inl rfl), ⟨h1, h2⟩, rfl, rfl⟩)⟩
    · rw [ltA lb 2 3 m m' t t' hm hi (by unfold wrap64; omega) (by decide) (req2 lb m m')]
      exact ⟨m, t', hm, .inr (.inl ⟨3, m', .inr (.inr rfl), ⟨h1, h2⟩, rfl, rfl⟩)⟩
    · rw [ltA3 lb m t hm]
      exact ⟨m, t, hm, .inr (.inr (.inl ⟨rfl, rfl⟩))⟩
  · obtain ⟨k, m', hk, hm', rfl, hp⟩ := h
    obtain rfl : p = pkB k m' := by simpa using hp
    have hn : evS rejS (CL lb) { stB k m with req := [⟨5, pB4 m'⟩] } 9 ⟨true, pkB k m', 0, []⟩ = (stA k m', [pkA k m']) := by
      rcases hk with rfl | rfl | rfl
      · exact nam1 lb m m'
      · exact nam2 lb m m'
      · exact nam3 lb m m'
    have hl := ltB lb k m m' t hm' hn
    refine ⟨sync5 _ m ⟨by omega, hm.2⟩ rfl rfl, one_ok _ _ _, by show (3 : Int) ≤ 7; decide, ?_, ?_⟩
    · rw [hl.1]; exact h7 _ m' rfl
    · rw [hl.2]
      exact ⟨m', t, hm', .inl ⟨k, .inr hk, rfl, rfl⟩⟩
  · obtain ⟨rfl, hp⟩ := h
    obtain rfl : p = pkC := by simpa using hp
    refine ⟨sync5 _ m ⟨by omega, hm.2⟩ rfl rfl, nil_ok _ _, by show (5 : Int) ≤ 7; decide, h7 _ m (by kernel_rfl), ?_⟩
    rw [ltC lb m t hm]
    exact ⟨m, t, hm, .inr (.inr (.inr (.inl ⟨rfl, rfl⟩)))⟩
  · obtain ⟨rfl, hp⟩ := h
    obtain rfl : p = pkD := by simpa using hp
    refine ⟨sync5 _ m ⟨by omega, hm.2⟩ rfl rfl, nil_ok _ _, by show (6 : Int) ≤ 7; decide, h7 _ m (by kernel_rfl), ?_⟩
    rw [ltD lb m t hm]
    exact ⟨m, t, hm, .inr (.inr (.inr (.inr ⟨rfl, rfl⟩)))⟩
  · obtain ⟨-, hp⟩ := h
    cases hp
end Go.Proofs.YthhdackaopaojaaGreat
