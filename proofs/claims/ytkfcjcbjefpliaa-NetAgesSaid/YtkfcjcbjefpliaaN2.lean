import Derived.Test.YtkfcjcbjefpliaaN1
namespace Go.Proofs.Ytkfcjcbjefpliaa
open Go.RowKit Go.Tg Go.Maps

theorem laidOut : laidOutB Try.prog = true := by kernel_rfl
theorem kt39 : Try.prog.keyTypeAt 3 39 = true := by kernel_rfl
theorem sz39 : decide (39 < Try.prog.types.size) = true := by kernel_rfl
theorem wd39 : (match Try.prog.underlying 39 with | some (.array _ _) | some (.struct _) => true | _ => false) = true := by kernel_rfl
theorem keyed39 : Keyed Try.prog 39 := Keyed.of_law (deep_law_laid laidOut (m := 3) (by omega) (of_decide_eq_true sz39) kt39 wd39)

def I64 (n : Int) : Prop := (Lit.int .i64 n).wf = true
theorem kv39 (a b : Int) (ha : I64 a) (hb : I64 b) : KV Try.prog 39 (.agg #[.int .i64 a, .int .i64 b]) := by
  unfold KV
  have h1 : Try.prog.keyType 39 = true := by kernel_rfl
  have h3 : (Value.agg #[Value.int .i64 a, Value.int .i64 b]).formed Try.prog 39 = true := by kernel_rfl
  have h2 : (Try.prog.keyLits (Try.prog.types.size + 1) 39 (Value.agg #[Value.int .i64 a, Value.int .i64 b]).cells.toList) = some [.int .i64 a, .int .i64 b] := by
    obtain ⟨d, hd⟩ : ∃ d, Try.prog.types.size + 1 = d + 2 := ⟨Try.prog.types.size - 1, by kernel_rfl⟩
    have c48 : Try.prog.cellsOf 39 = 2 := by kernel_rfl
    have c3 : Try.prog.cellsOf 3 = 1 := by kernel_rfl
    have cs : (Value.agg #[Value.int .i64 a, Value.int .i64 b]).cells.toList = [Value.int .i64 a, Value.int .i64 b] := rfl
    rw [hd, cs]
    unfold I64 at ha hb
    generalize hwa : (Lit.int .i64 a).wf = wa at ha
    generalize hwb : (Lit.int .i64 b).wf = wb at hb
    subst ha hb
    simp [Program.keyLits, Try.underlying39, Try.underlying3, c48, c3, hwa, hwb]
  simp only [keyOf, Try.underlying39, h1, h2, h3]
  exact ⟨_, rfl⟩

structure Gram where
  f : Int
  t : Int
  d : ByteArray
  n : Int
def Gram.cells (g : Gram) : List Value := [.int .i64 g.f, .int .i64 g.t, .string g.d, .int .i64 g.n]
def flat (l : List Gram) : List Value := (l.map Gram.cells).flatten
structure NetS where
  l : List Gram
  at' : Int → Int → Option (Int × Int)
  cut : Int → Int → Bool

/-- The counts of the pairs, and where each lies. -/
def CntAt (w : World) (B : Nat) (av : Value) (at' : Int → Int → Option (Int × Int)) (loc : Int → Int → Nat) : Prop :=
  (av = .map none ∧ ∀ a b, at' a b = none) ∨ ∃ m mm, av = .map (some m) ∧ B ≤ m ∧ MapAt Try.prog 39 w m mm ∧
    (∀ a b, at' a b = none → mm (pairV a b) = none) ∧
    (∀ a b s l, at' a b = some (s, l) → mm (pairV a b) = some (.pointer (some ⟨loc a b, 0, none⟩)) ∧ B ≤ loc a b ∧ w.heap[loc a b]? = some (.cells #[.int .i64 s, .int .i64 l] 57 (0, 0))) ∧
    (∀ a b a' b', (at' a b).isSome → (at' a' b').isSome → loc a b = loc a' b' → a = a' ∧ b = b')

def CutAt (w : World) (B : Nat) (cv : Value) (cut : Int → Int → Bool) : Prop :=
  (cv = .map none ∧ ∀ a b, cut a b = false) ∨ ∃ m mm, cv = .map (some m) ∧ B ≤ m ∧ MapAt Try.prog 39 w m mm ∧ ∀ a b, cut a b = (mm (pairV a b)).isSome

structure NetL (w : World) (b B : Nat) (st : NetS) (loc : Int → Int → Nat) (lv av cv : Value) : Prop where
  blk : w.heap[b]? = some (.cells #[lv, av, cv] 52 (0, 0))
  hB : B ≤ b
  row : w.ownsRow B 63 4 lv st.l.length (flat st.l)
  cnt : CntAt w B av st.at' loc
  cut : CutAt w B cv st.cut
  ne : ∀ m, av = .map (some m) → cv ≠ .map (some m)

theorem eql_map49 (m : Nat) (w : World) : (binOp .eql 49 (.map (some m)) (.map none)).run Try.prog w = .ok (.bool false) w := by kernel_rfl
theorem eql_map49n (w : World) : (binOp .eql 49 (.map none) (.map none)).run Try.prog w = .ok (.bool true) w := by kernel_rfl
theorem run_lookup_nil {P : Program} {T K E : TypeId} (w : World) (ht : P.underlying T = some (.map K E)) (Kd : Keyed P K) {k z : Value} (hk : KV P K k) (hz : (zeroValue E).run P w = .ok z w) (ok : Bool) :
    (Instr.lookup T (.map none) k ok).run P w = .ok (if ok then .tuple #[z, .bool false] else z) w := by
  obtain ⟨l, hl⟩ := hk
  have hf : (Instr.findKey K k ([] : List MapEntry)).run P w = .ok none w := by
    rcases Kd.find w hl [] (by simp) with ⟨h, _⟩ | ⟨j, e, _, h, _⟩
    · exact h
    · simp at h
  simp [Instr.lookup, run_underlying ht, Kd.check w true hl, hf, Result.andThen, hz]

set_option maxHeartbeats 400000 in
set_option maxRecDepth 100000 in
theorem of_there (b B m : Nat) (mm : Value → Option Value) (p q : Int) (w : World) (lv cv : Value) (lc : Nat) (hp : I64 p) (hq : I64 q)
    (hb : w.heap[b]? = some (.cells #[lv, .map (some m), cv] 52 (0, 0))) (hm : MapAt Try.prog 39 w m mm) (hk : mm (pairV p q) = some (.pointer (some ⟨lc, 0, none⟩))) :
    Calls Try.prog 22 #[.pointer (some ⟨b, 0, none⟩), .agg #[.int .i64 p, .int .i64 q]] w fun e w' => e = .returned (.pointer (some ⟨lc, 0, none⟩)) ∧ Keep (fun _ => False) w w' := by
  have hc1 : w.cell? ⟨b, 1, none⟩ = some (.map (some m)) := by simp [World.cell?, hb]
  have hz : ∀ w, (zeroValue 54).run Try.prog w = .ok (.pointer none) w := fun w => by kernel_rfl
  have hlk : ∀ w', w'.heap[m]? = w.heap[m]? → (Instr.lookup 49 (.map (some m)) (.agg #[.int .i64 p, .int .i64 q]) false).run Try.prog w' = .ok (.pointer (some ⟨lc, 0, none⟩)) w' := by
    intro w' h
    have := (hm.same h).run_lookup keyed39 Try.underlying49 (kv39 p q hp hq) (hz w') false
    rw [show mm (.agg #[.int .i64 p, .int .i64 q]) = some (.pointer (some ⟨lc, 0, none⟩)) from hk] at this
    exact this
  have hlt := hm.lt
  have hbl : b < w.heap.size := (Array.getElem?_eq_some_iff.1 hb).1
  have e0 : (w.alloc (.cells #[.int .i64 p, .int .i64 q] 39)).heap[m]? = w.heap[m]? := Below.heap_alloc _ _ _ hlt
  have hl1 : ∀ n, (Instr.lookup 49 (.map (some m)) (.agg #[.int .i64 p, .int .i64 q]) false).run Try.prog ((w.alloc (.cells #[.int .i64 p, .int .i64 q] 39)).drewN n) = .ok (.pointer (some ⟨lc, 0, none⟩)) ((w.alloc (.cells #[.int .i64 p, .int .i64 q] 39)).drewN n) := fun n => hlk _ e0
  have hl2 : ∀ a n, (Instr.lookup 49 (.map (some m)) (.agg #[.int .i64 p, .int .i64 q]) false).run Try.prog (((w.alloc (.cells #[.int .i64 p, .int .i64 q] 39)).drewN a).drewN n) = .ok (.pointer (some ⟨lc, 0, none⟩)) (((w.alloc (.cells #[.int .i64 p, .int .i64 q] 39)).drewN a).drewN n) := fun a n => hlk _ e0
  clear hlk hz hm hk hb e0
  have heq := eql_map49 m
  go_enter Try.func22, Try.ntmps22
  go_wp2_with fail
  go_quiet (fail)
  go_wp2_with fail
  go_quiet (fail)
  go_wp2_with fail
  go_ret
  exact ⟨rfl, (((Keep.refl _ _).alloc _).drewN _).drewN _⟩

end Go.Proofs.Ytkfcjcbjefpliaa
