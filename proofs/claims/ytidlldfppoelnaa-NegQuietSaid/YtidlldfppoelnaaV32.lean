import Derived.Test.YtidlldfppoelnaaV31
namespace Go.Proofs.Ytidlldfppoelnaa
open Go.RowKit Go.Tg Go.Maps

theorem TickP (rej : Pk → ByteArray) {w : World} {S : Nat → Prop} {B : NegB} {C : NegC} {st : NSt} {jb : Nat} (h : NegP w S B C st jb) :
    Calls Try.prog 25 #[.pointer (some ⟨B.nb, 0, none⟩)] w fun e w' => EvP w w' S (fun _ => False) B C jb (tickS rej C st) e := by
  obtain ⟨X, hX⟩ := h.1
  exact (Tick_at rej hX).mono (fun e w' he => he.p h)

theorem set8 {w : World} {b : Nat} {T : TypeId} {a0 a1 a2 a3 a4 a5 a6 a7 : Value} (h : w.heap[b]? = some (.cells #[a0, a1, a2, a3, a4, a5, a6, a7] T (0, 0))) (v0 v1 v2 v3 v4 v5 v6 v7 : Value) :
    ((((((((w.setCell ⟨b, 0, none⟩ v0).setCell ⟨b, 1, none⟩ v1).setCell ⟨b, 2, none⟩ v2).setCell ⟨b, 3, none⟩ v3).setCell ⟨b, 4, none⟩ v4).setCell ⟨b, 5, none⟩ v5).setCell ⟨b, 6, none⟩ v6).setCell ⟨b, 7, none⟩ v7).heap[b]? = some (.cells #[v0, v1, v2, v3, v4, v5, v6, v7] T (0, 0)) := by
  have h0 : (w.setCell ⟨b, 0, none⟩ v0).heap[b]? = some (.cells #[v0, a1, a2, a3, a4, a5, a6, a7] T (0, 0)) := set_block h 0 v0
  have h1 : ((w.setCell ⟨b, 0, none⟩ v0).setCell ⟨b, 1, none⟩ v1).heap[b]? = some (.cells #[v0, v1, a2, a3, a4, a5, a6, a7] T (0, 0)) := set_block h0 1 v1
  have h2 : (((w.setCell ⟨b, 0, none⟩ v0).setCell ⟨b, 1, none⟩ v1).setCell ⟨b, 2, none⟩ v2).heap[b]? = some (.cells #[v0, v1, v2, a3, a4, a5, a6, a7] T (0, 0)) := set_block h1 2 v2
  have h3 : ((((w.setCell ⟨b, 0, none⟩ v0).setCell ⟨b, 1, none⟩ v1).setCell ⟨b, 2, none⟩ v2).setCell ⟨b, 3, none⟩ v3).heap[b]? = some (.cells #[v0, v1, v2, v3, a4, a5, a6, a7] T (0, 0)) := set_block h2 3 v3
  have h4 : (((((w.setCell ⟨b, 0, none⟩ v0).setCell ⟨b, 1, none⟩ v1).setCell ⟨b, 2, none⟩ v2).setCell ⟨b, 3, none⟩ v3).setCell ⟨b, 4, none⟩ v4).heap[b]? = some (.cells #[v0, v1, v2, v3, v4, a5, a6, a7] T (0, 0)) := set_block h3 4 v4
  have h5 : ((((((w.setCell ⟨b, 0, none⟩ v0).setCell ⟨b, 1, none⟩ v1).setCell ⟨b, 2, none⟩ v2).setCell ⟨b, 3, none⟩ v3).setCell ⟨b, 4, none⟩ v4).setCell ⟨b, 5, none⟩ v5).heap[b]? = some (.cells #[v0, v1, v2, v3, v4, v5, a6, a7] T (0, 0)) := set_block h4 5 v5
  have h6 : (((((((w.setCell ⟨b, 0, none⟩ v0).setCell ⟨b, 1, none⟩ v1).setCell ⟨b, 2, none⟩ v2).setCell ⟨b, 3, none⟩ v3).setCell ⟨b, 4, none⟩ v4).setCell ⟨b, 5, none⟩ v5).setCell ⟨b, 6, none⟩ v6).heap[b]? = some (.cells #[v0, v1, v2, v3, v4, v5, v6, a7] T (0, 0)) := set_block h5 6 v6
  have h7 : ((((((((w.setCell ⟨b, 0, none⟩ v0).setCell ⟨b, 1, none⟩ v1).setCell ⟨b, 2, none⟩ v2).setCell ⟨b, 3, none⟩ v3).setCell ⟨b, 4, none⟩ v4).setCell ⟨b, 5, none⟩ v5).setCell ⟨b, 6, none⟩ v6).setCell ⟨b, 7, none⟩ v7).heap[b]? = some (.cells #[v0, v1, v2, v3, v4, v5, v6, v7] T (0, 0)) := set_block h6 7 v7
  exact h7
theorem keep8 (w : World) (b : Nat) (v0 v1 v2 v3 v4 v5 v6 v7 : Value) : Keep (fun k => k = b) w ((((((((w.setCell ⟨b, 0, none⟩ v0).setCell ⟨b, 1, none⟩ v1).setCell ⟨b, 2, none⟩ v2).setCell ⟨b, 3, none⟩ v3).setCell ⟨b, 4, none⟩ v4).setCell ⟨b, 5, none⟩ v5).setCell ⟨b, 6, none⟩ v6).setCell ⟨b, 7, none⟩ v7) :=
  ((((keep4 w b v0 v1 v2 v3).setCell ⟨b, 4, none⟩ (Or.inr rfl) v4).setCell ⟨b, 5, none⟩ (Or.inr rfl) v5).setCell ⟨b, 6, none⟩ (Or.inr rfl) v6).setCell ⟨b, 7, none⟩ (Or.inr rfl) v7

/-- The Setup of the laws. -/
def setV (b0 b1 b2 : Nat) (cf tm f wt : Int) : Array Value := #[.slice (some ⟨b0, 0, none⟩) 1 1, .slice (some ⟨b1, 0, none⟩) 1 1, .slice (some ⟨b2, 0, none⟩) 1 1, .slice none 0 0, .int .i64 cf, .int .i64 tm, .int .i64 f, .int .i64 wt]
def SetAt (w : World) (base b0 b1 b2 : Nat) (ask : ByteArray) : Prop :=
  ORow w base (.slice (some ⟨b0, 0, none⟩) 1 1) [⟨1, ask⟩] ∧ RRow w base (.slice (some ⟨b1, 0, none⟩) 1 1) [rule1] ∧ RRow w base (.slice (some ⟨b2, 0, none⟩) 1 1) [rule1]

set_option maxHeartbeats 4000000 in
set_option maxRecDepth 100000 in
theorem setup_any (ask : ByteArray) (f : Int) (w : World) :
    Calls Try.prog 12 #[.string ask, .int .i64 f] w fun e w' => ∃ b0 b1 b2, e = .returned (.agg (setV b0 b1 b2 5 2 f 2)) ∧ SetAt w' w.heap.size b0 b1 b2 ask ∧ Below w.heap.size w w' := by
  have b1 : Below w.heap.size w ((w.alloc (.cells #[.slice none 0 0, .slice none 0 0, .slice none 0 0, .slice none 0 0, .int .i64 0, .int .i64 0, .int .i64 0, .int .i64 0] 31 (0, 0))).alloc (.cells #[.int .i64 1, .string ask] 46 (0, 0))) := ((Below.refl _ _).alloc (Nat.le_refl _) _).alloc (by rw [alloc1]; omega) _
  have s1 : ((w.alloc (.cells #[.slice none 0 0, .slice none 0 0, .slice none 0 0, .slice none 0 0, .int .i64 0, .int .i64 0, .int .i64 0, .int .i64 0] 31 (0, 0))).alloc (.cells #[.int .i64 1, .string ask] 46 (0, 0))).heap.size = w.heap.size + 2 := alloc2 _ _ _
  have z1 := at20 w (.cells #[.slice none 0 0, .slice none 0 0, .slice none 0 0, .slice none 0 0, .int .i64 0, .int .i64 0, .int .i64 0, .int .i64 0] 31 (0, 0)) (.cells #[.int .i64 1, .string ask] 46 (0, 0))
  have o1 := ORow.one ⟨1, ask⟩ (at21 w (.cells #[.slice none 0 0, .slice none 0 0, .slice none 0 0, .slice none 0 0, .int .i64 0, .int .i64 0, .int .i64 0, .int .i64 0] 31 (0, 0)) (.cells #[.int .i64 1, .string ask] 46 (0, 0))) (show w.heap.size ≤ w.heap.size + 1 by omega)
  go_enter Try.func12, Try.ntmps12
  go_wp2_with fail
  refine (rule_any _).mono ?_
  rintro e w2 ⟨rfl, b2⟩
  have s2 := b2.size
  have z2 := (b2.block w.heap.size (by omega)).trans z1
  have o2 := o1.below b2
  have r2 := RRow.one rule1 (at1 w2 (.cells #[.int .i64 1, .int .i64 2, .int .i64 64, .int .i64 1492, .string ⟨#[5, 212]⟩] 48 (0, 0))) (show w.heap.size ≤ w2.heap.size by omega)
  have s3 : (w2.alloc (.cells #[.int .i64 1, .int .i64 2, .int .i64 64, .int .i64 1492, .string ⟨#[5, 212]⟩] 48 (0, 0))).heap.size = w2.heap.size + 1 := alloc1 _ _
  have b3 : Below w.heap.size w (w2.alloc (.cells #[.int .i64 1, .int .i64 2, .int .i64 64, .int .i64 1492, .string ⟨#[5, 212]⟩] 48 (0, 0))) := (b1.trans (b2.mono (by omega))).alloc (by omega) _
  have z3 := (Below.heap_alloc w2 (.cells #[.int .i64 1, .int .i64 2, .int .i64 64, .int .i64 1492, .string ⟨#[5, 212]⟩] 48 (0, 0)) w.heap.size (by omega)).trans z2
  have o3 := o2.below ((Below.refl w2.heap.size w2).alloc (Nat.le_refl _) (.cells #[.int .i64 1, .int .i64 2, .int .i64 64, .int .i64 1492, .string ⟨#[5, 212]⟩] 48 (0, 0)))
  have HA := Lib.hid (And.intro b3 (And.intro z3 (And.intro o3 r2)))
  clear b1 z1 o1 b2 z2 o2 r2 b3 z3 o3
  go_wp2_with fail
  refine (rule_any _).mono ?_
  rintro e w4 ⟨rfl, b4⟩
  have s4 := b4.size
  have z4 := (b4.block w.heap.size (by omega)).trans HA.out.2.1
  have s5 : (w4.alloc (.cells #[.int .i64 1, .int .i64 2, .int .i64 64, .int .i64 1492, .string ⟨#[5, 212]⟩] 48 (0, 0))).heap.size = w4.heap.size + 1 := alloc1 _ _
  have z5 : ∀ X, (w4.alloc X).heap[w.heap.size]? = _ := fun X => (Below.heap_alloc w4 X w.heap.size (by omega)).trans z4
  have f4 : ∀ o, w4.frozen? ⟨w.heap.size, o, none⟩ = false := fzOf z4
  have f5 : ∀ X o, (w4.alloc X).frozen? ⟨w.heap.size, o, none⟩ = false := fun X => fzOf (z5 X)
  have HB := Lib.hid (And.intro b4 (And.intro z4 z5))
  have c0 := cellOf z4 0 _ rfl
  have d0 := fun X => cellOf (z5 X) 0 _ rfl
  have c1 := cellOf z4 1 _ rfl
  have d1 := fun X => cellOf (z5 X) 1 _ rfl
  have c2 := cellOf z4 2 _ rfl
  have d2 := fun X => cellOf (z5 X) 2 _ rfl
  have c3 := cellOf z4 3 _ rfl
  have d3 := fun X => cellOf (z5 X) 3 _ rfl
  have c4 := cellOf z4 4 _ rfl
  have d4 := fun X => cellOf (z5 X) 4 _ rfl
  have c5 := cellOf z4 5 _ rfl
  have d5 := fun X => cellOf (z5 X) 5 _ rfl
  have c6 := cellOf z4 6 _ rfl
  have d6 := fun X => cellOf (z5 X) 6 _ rfl
  have c7 := cellOf z4 7 _ rfl
  have d7 := fun X => cellOf (z5 X) 7 _ rfl
  clear b4 z4 z5
  go_wp2_with fail
  have zF : (((((((((w4.alloc (.cells #[.int .i64 1, .int .i64 2, .int .i64 64, .int .i64 1492, .string ⟨#[5, 212]⟩] 48 (0, 0))).setCell ⟨w.heap.size, 0, none⟩ (.slice (some ⟨w.heap.size + 1, 0, none⟩) 1 1)).setCell ⟨w.heap.size, 1, none⟩ (.slice (some ⟨w2.heap.size, 0, none⟩) 1 1)).setCell ⟨w.heap.size, 2, none⟩ (.slice (some ⟨w4.heap.size, 0, none⟩) 1 1)).setCell ⟨w.heap.size, 3, none⟩ (.slice none 0 0)).setCell ⟨w.heap.size, 4, none⟩ (.int .i64 5)).setCell ⟨w.heap.size, 5, none⟩ (.int .i64 2)).setCell ⟨w.heap.size, 6, none⟩ (.int .i64 f)).setCell ⟨w.heap.size, 7, none⟩ (.int .i64 2)).heap[w.heap.size]? = some (.cells (setV (w.heap.size + 1) w2.heap.size w4.heap.size 5 2 f 2) 31 (0, 0)) := set8 (HB.out.2.2 (.cells #[.int .i64 1, .int .i64 2, .int .i64 64, .int .i64 1492, .string ⟨#[5, 212]⟩] 48 (0, 0))) _ _ _ _ _ _ _ _
  have kF : Keep (fun k => k = w.heap.size) (w4.alloc (.cells #[.int .i64 1, .int .i64 2, .int .i64 64, .int .i64 1492, .string ⟨#[5, 212]⟩] 48 (0, 0))) (((((((((w4.alloc (.cells #[.int .i64 1, .int .i64 2, .int .i64 64, .int .i64 1492, .string ⟨#[5, 212]⟩] 48 (0, 0))).setCell ⟨w.heap.size, 0, none⟩ (.slice (some ⟨w.heap.size + 1, 0, none⟩) 1 1)).setCell ⟨w.heap.size, 1, none⟩ (.slice (some ⟨w2.heap.size, 0, none⟩) 1 1)).setCell ⟨w.heap.size, 2, none⟩ (.slice (some ⟨w4.heap.size, 0, none⟩) 1 1)).setCell ⟨w.heap.size, 3, none⟩ (.slice none 0 0)).setCell ⟨w.heap.size, 4, none⟩ (.int .i64 5)).setCell ⟨w.heap.size, 5, none⟩ (.int .i64 2)).setCell ⟨w.heap.size, 6, none⟩ (.int .i64 f)).setCell ⟨w.heap.size, 7, none⟩ (.int .i64 2)) := keep8 (w4.alloc (.cells #[.int .i64 1, .int .i64 2, .int .i64 64, .int .i64 1492, .string ⟨#[5, 212]⟩] 48 (0, 0))) w.heap.size _ _ _ _ _ _ _ _
  have hB5 : Below w.heap.size w (w4.alloc (.cells #[.int .i64 1, .int .i64 2, .int .i64 64, .int .i64 1492, .string ⟨#[5, 212]⟩] 48 (0, 0))) := (HA.out.1.trans (HB.out.1.mono (by omega))).alloc (by omega) _
  have o5 := (HA.out.2.2.1.below HB.out.1).below ((Below.refl w4.heap.size w4).alloc (Nat.le_refl _) (.cells #[.int .i64 1, .int .i64 2, .int .i64 64, .int .i64 1492, .string ⟨#[5, 212]⟩] 48 (0, 0)))
  have r5 := (HA.out.2.2.2.below HB.out.1).below ((Below.refl w4.heap.size w4).alloc (Nat.le_refl _) (.cells #[.int .i64 1, .int .i64 2, .int .i64 64, .int .i64 1492, .string ⟨#[5, 212]⟩] 48 (0, 0)))
  have r6 := RRow.one rule1 (at1 w4 (.cells #[.int .i64 1, .int .i64 2, .int .i64 64, .int .i64 1492, .string ⟨#[5, 212]⟩] 48 (0, 0))) (show w.heap.size ≤ w4.heap.size by omega)
  generalize ((((((((w4.alloc (.cells #[.int .i64 1, .int .i64 2, .int .i64 64, .int .i64 1492, .string ⟨#[5, 212]⟩] 48 (0, 0))).setCell ⟨w.heap.size, 0, none⟩ (.slice (some ⟨w.heap.size + 1, 0, none⟩) 1 1)).setCell ⟨w.heap.size, 1, none⟩ (.slice (some ⟨w2.heap.size, 0, none⟩) 1 1)).setCell ⟨w.heap.size, 2, none⟩ (.slice (some ⟨w4.heap.size, 0, none⟩) 1 1)).setCell ⟨w.heap.size, 3, none⟩ (.slice none 0 0)).setCell ⟨w.heap.size, 4, none⟩ (.int .i64 5)).setCell ⟨w.heap.size, 5, none⟩ (.int .i64 2)).setCell ⟨w.heap.size, 6, none⟩ (.int .i64 f)).setCell ⟨w.heap.size, 7, none⟩ (.int .i64 2) = W at zF kF ⊢
  have z0 := cellOf zF 0 _ rfl
  have z1 := cellOf zF 1 _ rfl
  have z2 := cellOf zF 2 _ rfl
  have z3 := cellOf zF 3 _ rfl
  have z4 := cellOf zF 4 _ rfl
  have z5 := cellOf zF 5 _ rfl
  have z6 := cellOf zF 6 _ rfl
  have z7 := cellOf zF 7 _ rfl
  exact bodyPost_ret (v := .agg (setV (w.heap.size + 1) w2.heap.size w4.heap.size 5 2 f 2)) (by simp [results, Try.results12, go_sem, z0, z1, z2, z3, z4, z5, z6, z7, setV]) rfl
    ⟨_, _, _, rfl, ⟨o5.keep kF (fun k hk he => by cases hk; simp only at he; omega), r5.keep kF (fun k hk he => by cases hk; simp only at he; omega), r6.keep kF (fun k hk he => by cases hk; simp only at he; omega)⟩, hB5.trans (kF.below (by have := hB5.size; omega) (fun b hb he => by omega))⟩
end Go.Proofs.Ytidlldfppoelnaa
