import Derived.Test.YtignponfoheaeaaGreatRAD
import Derived.Test.YtignponfoheaeaaGreatRAI
import Derived.Test.YtignponfoheaeaaGreatRAA
import Derived.Lib.QuietBelow
import Derived.Test.YtignponfoheaeaaGreatRAG
set_option linter.unusedVariables false
set_option linter.unusedSimpArgs false
set_option maxHeartbeats 16000000
namespace Go.Proofs.YtignponfoheaeaaGreat
open Go.RowKit Go.Tg Go.Maps
def iV (l : List Int) : List Value := l.map (Value.int .i64)
theorem iV_len (l : List Int) : (iV l).length = l.length := by simp [iV]
theorem iV_app (a b : List Int) : iV (a ++ b) = iV a ++ iV b := by simp [iV]
def mkI (i j : Nat) : List Value := [.int .i64 (-1000000 * (i : Int) - (j : Int) - 7)]
theorem int_row : RowT Tryz.prog 43 3 1 8 where
 ht := Tryz.underlying43
 hi := by
  have h : (Tryz.prog.info? 3).map (fun i => (i.zero, i.size, i.bytes)) = some (some (.int .i64 0), 1, 8) := by kernel_rfl
  obtain ⟨i, hi, he⟩ := Option.map_eq_some_iff.1 h; simp only [Prod.mk.injEq] at he; exact ⟨i, _, hi, he.1, he.2.1, he.2.2, rfl⟩
 hk := by decide
 hb := by decide
structure Laid (T : TypeId) (k : Nat) (w w' : World) (v : Value) (n : Nat) (us : List Value) : Prop where
 r : BRow T k w' v n us
 b : Below w.heap.size w w'
 f : ∀ g, v.ownBlock = some g -> w.heap.size <= g
theorem Laid.app {T : TypeId} {k : Nat} {w wr w1 w6 : World} {u v' : Value} {n n' : Nat} {us us' : List Value} (h : Laid T k w wr u n us) (hb : Below wr.heap.size wr w1) (hr : BRow T k w6 v' n' us') (hk : Keep (fun b => u.ownBlock = some b) w1 w6)
 (ho : v'.ownBlock = u.ownBlock \/ v'.ownBlock = some w1.heap.size) : Laid T k w w6 v' n' us' where
 r := hr
 b := (h.b.trans (hb.mono h.b.size)).trans (hk.below (Nat.le_trans h.b.size hb.size) (fun b hb he => by have := h.f b he; omega))
 f := fun g hg => by
  rcases ho with ho | ho
  . rw [ho] at hg; exact h.f g hg
  . rw [ho] at hg; cases hg; exact Nat.le_trans h.b.size hb.size
theorem cell_of_at (w : World) (o : Obj) (g : Nat) (h : g = w.heap.size) : (w.alloc o).heap[g]? = some o := by subst h; exact heap_alloc_new w o
theorem balloc1 (w : World) (o : Obj) : (w.alloc o).heap.size = w.heap.size + 1 := Array.size_push ..
theorem b1 (w : World) (o : Obj) : Below w.heap.size w (w.alloc o) := (Below.refl _ _).alloc (Nat.le_refl _) o
theorem iV_at (xs : List Int) (j : Nat) (h : j < xs.length) : (iV xs)[j]? = some (.int .i64 xs[j]) := by simp [iV, h]
theorem RowR_int {w : World} {sa : Option Addr} {m c n : Nat} {xs : List Int} (h : RowR w (.slice sa m c) n (iV xs)) (j : Nat) (hj : j < xs.length) : ∃ g, sa = some ⟨g, 0, none⟩ /\ g < w.heap.size /\ w.cell? ⟨g, j, none⟩ = some (.int .i64 xs[j]) := by
 obtain ⟨g, h1, h2, h3⟩ := h.at j (by rw [iV_len]; exact hj); refine ⟨g, h1, h2, h3.trans ?_⟩; have := iV_at xs j hj; rw [List.getElem?_eq_getElem (by rw [iV_len]; exact hj)] at this; exact this
def mlist (i f n : Nat) : List Int := (List.range n).map fun (j : Nat) => -1000000 * (i : Int) - ((f + j : Nat) : Int) - 7
def mixC (mk : Nat -> Nat -> List Value) (m : Nat -> Nat) (cs : Nat -> List Value) (k : Nat) : Nat -> List Value := fun j => if j < k then marksC mk j 0 (m j) else cs j
theorem mixC_step (mk : Nat -> Nat -> List Value) (m : Nat -> Nat) (cs : Nat -> List Value) (k : Nat) (i : Nat) : upN (mixC mk m cs k) k (marksC mk k 0 (m k)) i = mixC mk m cs (k + 1) i := by
 unfold mixC
 by_cases h : i = k
 . subst h; rw [upN_same, if_pos (by omega)]
 . rw [upN_ne _ _ h]
   by_cases h2 : i < k
   . rw [if_pos h2, if_pos (by omega)]
   . rw [if_neg h2, if_neg (by omega)]
structure PutI (T TS : TypeId) (k : Nat) (mk : Nat -> Nat -> List Value) (w wr : World) (v : Value) (n : Nat) (X : Nat -> Value) (m : Nat -> Nat) (cs : Nat -> List Value) (i : Nat) : Prop where
 x : XV T TS k wr v n X m (mixC mk m cs i)
 kp : Keep (fun g => ∃ j, j < n /\ (X j).ownBlock = some g) w wr
structure PutJ (T : TypeId) (k : Nat) (mk : Nat -> Nat -> List Value) (w wr : World) (x : Value) (m : Nat) (cs : List Value) (i j : Nat) : Prop where
 row : BRow T k wr x m (marksC mk i 0 j ++ cs.drop (j * k))
 kp : Keep (fun g => x.ownBlock = some g) w wr
theorem set_mark {A l : List Value} {j : Nat} {u : Value} (hA : A.length = j) (hj : j < l.length) : (A ++ l.drop j).set j u = (A ++ [u]) ++ l.drop (j + 1) := by
 subst hA; rw [List.set_append_right _ _ (Nat.le_refl _), Nat.sub_self, List.drop_eq_getElem_cons hj, List.set_cons_zero, List.append_assoc]; rfl
theorem cell_set {w : World} {b : Nat} {cs : Array Value} {T : TypeId} (h : w.heap[b]? = some (.cells cs T (0, 0))) (o : Nat) (v : Value) : (w.setCell ⟨b, o, none⟩ v).heap[b]? = some (.cells (cs.setIfInBounds o v) T (0, 0)) := by
 simp [World.setCell, Array.getElem?_modify, h]
structure AddI (T TS : TypeId) (k : Nat) (bb o1 o2 : Nat) (bcs : Array Value) (BT : TypeId) (w w' : World) (D D' : KD) (x : Value) : Prop where
 s : ShelfV T TS k w' D'
 b : w'.heap[bb]? = some (.cells ((bcs.setIfInBounds o1 D'.v1).setIfInBounds o2 D'.v2) BT (0, 0))
 kp : Keep (fun g => g = bb \/ D.v1.ownBlock = some g \/ D.v2.ownBlock = some g) w w'
 has : ∀ g, D'.Has g -> D.Has g \/ x.ownBlock = some g \/ (w.heap.size <= g /\ g < w'.heap.size)
theorem fz_block {w : World} {b : Nat} {cs : Array Value} {T : TypeId} (h : w.heap[b]? = some (.cells cs T (0, 0))) (o : Nat) : w.frozen? ⟨b, o, none⟩ = false := by
 simp [World.frozen?, h]
theorem cell_block {w : World} {b : Nat} {cs : Array Value} {T : TypeId} {o : Nat} {v : Value} (h : w.heap[b]? = some (.cells cs T (0, 0))) (hv : cs[o]? = some v) : w.cell? ⟨b, o, none⟩ = some v := by
 simp [World.cell?, h, hv]
theorem get_set {cs : Array Value} {i j : Nat} {v u : Value} (h : cs[i]? = some v) (hij : j ≠ i) : (cs.setIfInBounds j u)[i]? = some v := by
 rw [Array.getElem?_setIfInBounds, if_neg hij]; exact h
theorem scan_le {b : ByteArray} {st : Int} {f i : Nat} {a : Int} {fr : Nat} {r : ByteArray × Int} (h : scanE b st (f + 1) i a fr = some r) :
 (b.size < i /\ r = (bs [], st)) \/ (i < b.size /\ b.data.toList.getD i 0 ≠ 124 /\ scanE b st f (i + 1) a fr = some r) \/
 ((i = b.size \/ (i < b.size /\ b.data.toList.getD i 0 = 124)) /\ a ≠ st /\ scanE b st f (i + 1) (a + 1) (i + 1) = some r) \/
 ((i = b.size \/ (i < b.size /\ b.data.toList.getD i 0 = 124)) /\ a = st /\ b.extract fr i = bs [45] /\ r = (bs [], st)) \/
 ((i = b.size \/ (i < b.size /\ b.data.toList.getD i 0 = 124)) /\ a = st /\ b.extract fr i ≠ bs [45] /\ 1 < (b.extract fr i).size /\ r = ((b.extract fr i).extract 0 ((b.extract fr i).size - 2), ((((b.extract fr i).data.toList.getD ((b.extract fr i).size - 1) 0).toNat : Int)) - 48)) \/
 ((i = b.size \/ (i < b.size /\ b.data.toList.getD i 0 = 124)) /\ a = st /\ b.extract fr i ≠ bs [45] /\ (b.extract fr i).size = 1 /\ r = (bs [], (((b.extract fr i).data.toList.getD 0 0).toNat : Int) - 48)) := by
 unfold scanE at h
 by_cases h1 : i <= b.size
 . rw [if_pos h1] at h
   by_cases h2 : i < b.size /\ b.data.toList.getD i 0 ≠ 124
   . rw [if_pos h2] at h; exact .inr (.inl ⟨h2.1, h2.2, h⟩)
   . rw [if_neg h2] at h
     have h3 : i = b.size \/ (i < b.size /\ b.data.toList.getD i 0 = 124) := by
      by_cases h4 : i = b.size
      . exact .inl h4
      . refine .inr ⟨by omega, ?_⟩
        by_cases h5 : b.data.toList.getD i 0 = 124
        . exact h5
        . exact absurd ⟨by omega, h5⟩ h2
     by_cases h4 : a = st
     . rw [if_pos h4] at h
       by_cases h5 : b.extract fr i = bs [45]
       . rw [if_pos h5] at h; exact .inr (.inr (.inr (.inl ⟨h3, h4, h5, (Option.some.inj h).symm⟩)))
       . rw [if_neg h5] at h
         by_cases h6 : 1 < (b.extract fr i).size
         . rw [if_pos h6] at h; exact .inr (.inr (.inr (.inr (.inl ⟨h3, h4, h5, h6, (Option.some.inj h).symm⟩))))
         . rw [if_neg h6] at h
           by_cases h7 : (b.extract fr i).size = 1
           . rw [if_pos h7] at h; exact .inr (.inr (.inr (.inr (.inr ⟨h3, h4, h5, h7, (Option.some.inj h).symm⟩))))
           . rw [if_neg h7] at h; cases h
     . rw [if_neg h4] at h; exact .inr (.inr (.inl ⟨h3, h4, h⟩))
 . rw [if_neg h1] at h; exact .inl ⟨by omega, (Option.some.inj h).symm⟩
theorem rowE_at (k : Nat) (hk : k < 16) : (#[.string ⟨#[50, 124, 105, 114, 99, 32, 115, 99, 114, 47, 54, 124, 45, 124, 45, 124, 45, 124, 45, 124, 45, 124, 45, 124, 45, 124, 45]⟩, .string ⟨#[45, 124, 45, 124, 48, 124, 116, 108, 115, 47, 49, 124, 48, 124, 49, 124, 49, 124, 49, 124, 49, 124, 116, 108, 100, 47, 49]⟩, .string ⟨#[116, 108, 115, 47, 49, 124, 49, 124, 105, 114, 99, 32, 115, 99, 114, 47, 54, 124, 51, 124, 53, 124, 53, 124, 54, 124, 55, 124, 56, 124, 57]⟩, .string ⟨#[48, 124, 116, 108, 102, 47, 48, 124, 50, 124, 50, 124, 52, 124, 52, 124, 105, 114, 99, 32, 115, 116, 114, 47, 52, 124, 105, 114, 99, 32, 115, 116, 114, 47, 52, 124, 105, 114, 99, 32, 115, 116, 114, 47, 52, 124, 116, 108, 100, 32, 105, 114, 99, 32, 115, 116, 114, 47, 52]⟩, .string ⟨#[45, 124, 45, 124, 45, 124, 45, 124, 115, 116, 114, 47, 52, 124, 115, 116, 114, 47, 53, 124, 115, 99, 114, 47, 54, 124, 115, 99, 114, 47, 54, 124, 115, 99, 114, 47, 56, 124, 45]⟩, .string ⟨#[45, 124, 45, 124, 45, 124, 45, 124, 116, 108, 102, 47, 50, 124, 116, 108, 102, 47, 51, 124, 116, 108, 102, 47, 51, 124, 116, 108, 102, 47, 51, 124, 116, 108, 102, 47, 51, 124, 45]⟩, .string ⟨#[45, 124, 45, 124, 115, 116, 97, 47, 50, 124, 105, 114, 99, 32, 115, 99, 114, 32, 115, 99, 97, 47, 56, 124, 52, 124, 53, 124, 115, 99, 97, 47, 56, 124, 115, 99, 97, 32, 116, 108, 117, 47, 57, 124, 115, 99, 97, 47, 56, 124, 116, 108, 100, 32, 115, 99, 114, 32, 115, 99, 97, 47, 56]⟩, .string ⟨#[45, 124, 45, 124, 115, 116, 97, 47, 50, 124, 105, 114, 99, 32, 115, 99, 114, 32, 115, 99, 110, 47, 54, 124, 52, 124, 53, 124, 115, 99, 110, 47, 54, 124, 115, 99, 110, 47, 55, 124, 115, 99, 110, 47, 54, 124, 116, 108, 100, 32, 115, 99, 114, 32, 115, 99, 110, 47, 54]⟩, .string ⟨#[45, 124, 45, 124, 115, 116, 97, 47, 50, 124, 115, 116, 97, 47, 51, 124, 52, 124, 53, 124, 105, 114, 99, 47, 55, 124, 115, 99, 114, 47, 54, 124, 105, 114, 99, 32, 116, 108, 117, 47, 57, 124, 116, 108, 100, 32, 115, 99, 114, 47, 54]⟩, .string ⟨#[45, 124, 45, 124, 115, 116, 97, 47, 50, 124, 115, 116, 97, 47, 51, 124, 52, 124, 53, 124, 105, 114, 99, 32, 115, 99, 114, 47, 54, 124, 115, 99, 114, 47, 54, 124, 105, 114, 99, 32, 115, 99, 114, 47, 56, 124, 116, 108, 100, 32, 115, 99, 114, 47, 54]⟩, .string ⟨#[45, 124, 45, 124, 115, 116, 97, 47, 50, 124, 115, 116, 97, 47, 51, 124, 115, 116, 97, 47, 52, 124, 115, 116, 97, 47, 53, 124, 115, 116, 97, 47, 54, 124, 115, 116, 97, 47, 54, 124, 115, 116, 97, 47, 54, 124, 116, 108, 100, 32, 122, 114, 99, 32, 115, 116, 97, 47, 53]⟩, .string ⟨#[45, 124, 45, 124, 50, 124, 51, 124, 116, 108, 102, 47, 50, 124, 116, 108, 102, 47, 51, 124, 54, 124, 54, 124, 56, 124, 116, 108, 100, 32, 115, 99, 114, 47, 54]⟩, .string ⟨#[45, 124, 45, 124, 115, 99, 106, 47, 50, 124, 115, 99, 106, 47, 51, 124, 115, 99, 106, 47, 52, 124, 115, 99, 106, 47, 53, 124, 115, 99, 106, 47, 54, 124, 115, 99, 106, 47, 55, 124, 115, 99, 106, 47, 56, 124, 115, 99, 106, 47, 57]⟩, .string ⟨#[45, 124, 45, 124, 50, 124, 51, 124, 52, 124, 53, 124, 54, 124, 54, 124, 56, 124, 57]⟩, .string ⟨#[45, 124, 45, 124, 116, 108, 102, 47, 50, 124, 116, 108, 102, 47, 51, 124, 116, 108, 102, 47, 50, 124, 116, 108, 102, 47, 51, 124, 116, 108, 102, 47, 51, 124, 116, 108, 102, 47, 51, 124, 116, 108, 102, 47, 51, 124, 116, 108, 100, 32, 105, 114, 99, 32, 115, 116, 114, 47, 53]⟩, .string ⟨#[45, 124, 45, 124, 50, 124, 51, 124, 52, 124, 53, 124, 54, 124, 55, 124, 56, 124, 115, 101, 114, 47, 57]⟩] : Array Value)[k]? = some (.string (rowE (k : Int))) := by
 have : k = 0 \/ k = 1 \/ k = 2 \/ k = 3 \/ k = 4 \/ k = 5 \/ k = 6 \/ k = 7 \/ k = 8 \/ k = 9 \/ k = 10 \/ k = 11 \/ k = 12 \/ k = 13 \/ k = 14 \/ k = 15 := by omega
 rcases this with rfl | rfl | rfl | rfl | rfl | rfl | rfl | rfl | rfl | rfl | rfl | rfl | rfl | rfl | rfl | rfl <;> rfl
theorem rowE_len (k : Nat) (hk : k < 16) : (rowE (k : Int)).size <= 100 := by
 have : k = 0 \/ k = 1 \/ k = 2 \/ k = 3 \/ k = 4 \/ k = 5 \/ k = 6 \/ k = 7 \/ k = 8 \/ k = 9 \/ k = 10 \/ k = 11 \/ k = 12 \/ k = 13 \/ k = 14 \/ k = 15 := by omega
 rcases this with rfl | rfl | rfl | rfl | rfl | rfl | rfl | rfl | rfl | rfl | rfl | rfl | rfl | rfl | rfl | rfl <;> decide
theorem getD_get (b : ByteArray) (i : Nat) (h : i < b.size) : b.data.toList.getD i 0 = b[i] := by
 rw [List.getD_eq_getElem?_getD, List.getElem?_eq_getElem (by rw [Array.length_toList]; exact h)]; rfl
set_option maxRecDepth 100000 in
theorem entry_any (s e : Nat) (hs : s < 10) (he : e < 16) (rw' : ByteArray) (rt : Int) (h0 : 0 <= rt) (hR : entryE (s : Int) (e : Int) = some (rw', rt)) (w : World) :
 Calls Tryz.prog 64 #[.int .i64 (s : Int), .int .i64 (e : Int)] w fun en w' => en = .returned (.tuple #[.string rw', .int .i64 rt]) /\ Below w.heap.size w w' := by
 have hb0 := b1 w (.cells #[.string ⟨#[50, 124, 105, 114, 99, 32, 115, 99, 114, 47, 54, 124, 45, 124, 45, 124, 45, 124, 45, 124, 45, 124, 45, 124, 45, 124, 45]⟩, .string ⟨#[45, 124, 45, 124, 48, 124, 116, 108, 115, 47, 49, 124, 48, 124, 49, 124, 49, 124, 49, 124, 49, 124, 116, 108, 100, 47, 49]⟩, .string ⟨#[116, 108, 115, 47, 49, 124, 49, 124, 105, 114, 99, 32, 115, 99, 114, 47, 54, 124, 51, 124, 53, 124, 53, 124, 54, 124, 55, 124, 56, 124, 57]⟩, .string ⟨#[48, 124, 116, 108, 102, 47, 48, 124, 50, 124, 50, 124, 52, 124, 52, 124, 105, 114, 99, 32, 115, 116, 114, 47, 52, 124, 105, 114, 99, 32, 115, 116, 114, 47, 52, 124, 105, 114, 99, 32, 115, 116, 114, 47, 52, 124, 116, 108, 100, 32, 105, 114, 99, 32, 115, 116, 114, 47, 52]⟩, .string ⟨#[45, 124, 45, 124, 45, 124, 45, 124, 115, 116, 114, 47, 52, 124, 115, 116, 114, 47, 53, 124, 115, 99, 114, 47, 54, 124, 115, 99, 114, 47, 54, 124, 115, 99, 114, 47, 56, 124, 45]⟩, .string ⟨#[45, 124, 45, 124, 45, 124, 45, 124, 116, 108, 102, 47, 50, 124, 116, 108, 102, 47, 51, 124, 116, 108, 102, 47, 51, 124, 116, 108, 102, 47, 51, 124, 116, 108, 102, 47, 51, 124, 45]⟩, .string ⟨#[45, 124, 45, 124, 115, 116, 97, 47, 50, 124, 105, 114, 99, 32, 115, 99, 114, 32, 115, 99, 97, 47, 56, 124, 52, 124, 53, 124, 115, 99, 97, 47, 56, 124, 115, 99, 97, 32, 116, 108, 117, 47, 57, 124, 115, 99, 97, 47, 56, 124, 116, 108, 100, 32, 115, 99, 114, 32, 115, 99, 97, 47, 56]⟩, .string ⟨#[45, 124, 45, 124, 115, 116, 97, 47, 50, 124, 105, 114, 99, 32, 115, 99, 114, 32, 115, 99, 110, 47, 54, 124, 52, 124, 53, 124, 115, 99, 110, 47, 54, 124, 115, 99, 110, 47, 55, 124, 115, 99, 110, 47, 54, 124, 116, 108, 100, 32, 115, 99, 114, 32, 115, 99, 110, 47, 54]⟩, .string ⟨#[45, 124, 45, 124, 115, 116, 97, 47, 50, 124, 115, 116, 97, 47, 51, 124, 52, 124, 53, 124, 105, 114, 99, 47, 55, 124, 115, 99, 114, 47, 54, 124, 105, 114, 99, 32, 116, 108, 117, 47, 57, 124, 116, 108, 100, 32, 115, 99, 114, 47, 54]⟩, .string ⟨#[45, 124, 45, 124, 115, 116, 97, 47, 50, 124, 115, 116, 97, 47, 51, 124, 52, 124, 53, 124, 105, 114, 99, 32, 115, 99, 114, 47, 54, 124, 115, 99, 114, 47, 54, 124, 105, 114, 99, 32, 115, 99, 114, 47, 56, 124, 116, 108, 100, 32, 115, 99, 114, 47, 54]⟩, .string ⟨#[45, 124, 45, 124, 115, 116, 97, 47, 50, 124, 115, 116, 97, 47, 51, 124, 115, 116, 97, 47, 52, 124, 115, 116, 97, 47, 53, 124, 115, 116, 97, 47, 54, 124, 115, 116, 97, 47, 54, 124, 115, 116, 97, 47, 54, 124, 116, 108, 100, 32, 122, 114, 99, 32, 115, 116, 97, 47, 53]⟩, .string ⟨#[45, 124, 45, 124, 50, 124, 51, 124, 116, 108, 102, 47, 50, 124, 116, 108, 102, 47, 51, 124, 54, 124, 54, 124, 56, 124, 116, 108, 100, 32, 115, 99, 114, 47, 54]⟩, .string ⟨#[45, 124, 45, 124, 115, 99, 106, 47, 50, 124, 115, 99, 106, 47, 51, 124, 115, 99, 106, 47, 52, 124, 115, 99, 106, 47, 53, 124, 115, 99, 106, 47, 54, 124, 115, 99, 106, 47, 55, 124, 115, 99, 106, 47, 56, 124, 115, 99, 106, 47, 57]⟩, .string ⟨#[45, 124, 45, 124, 50, 124, 51, 124, 52, 124, 53, 124, 54, 124, 54, 124, 56, 124, 57]⟩, .string ⟨#[45, 124, 45, 124, 116, 108, 102, 47, 50, 124, 116, 108, 102, 47, 51, 124, 116, 108, 102, 47, 50, 124, 116, 108, 102, 47, 51, 124, 116, 108, 102, 47, 51, 124, 116, 108, 102, 47, 51, 124, 116, 108, 102, 47, 51, 124, 116, 108, 100, 32, 105, 114, 99, 32, 115, 116, 114, 47, 53]⟩, .string ⟨#[45, 124, 45, 124, 50, 124, 51, 124, 52, 124, 53, 124, 54, 124, 55, 124, 56, 124, 115, 101, 114, 47, 57]⟩] 9 (0, 0)); have hx : (w.alloc (.cells #[.string ⟨#[50, 124, 105, 114, 99, 32, 115, 99, 114, 47, 54, 124, 45, 124, 45, 124, 45, 124, 45, 124, 45, 124, 45, 124, 45, 124, 45]⟩, .string ⟨#[45, 124, 45, 124, 48, 124, 116, 108, 115, 47, 49, 124, 48, 124, 49, 124, 49, 124, 49, 124, 49, 124, 116, 108, 100, 47, 49]⟩, .string ⟨#[116, 108, 115, 47, 49, 124, 49, 124, 105, 114, 99, 32, 115, 99, 114, 47, 54, 124, 51, 124, 53, 124, 53, 124, 54, 124, 55, 124, 56, 124, 57]⟩, .string ⟨#[48, 124, 116, 108, 102, 47, 48, 124, 50, 124, 50, 124, 52, 124, 52, 124, 105, 114, 99, 32, 115, 116, 114, 47, 52, 124, 105, 114, 99, 32, 115, 116, 114, 47, 52, 124, 105, 114, 99, 32, 115, 116, 114, 47, 52, 124, 116, 108, 100, 32, 105, 114, 99, 32, 115, 116, 114, 47, 52]⟩, .string ⟨#[45, 124, 45, 124, 45, 124, 45, 124, 115, 116, 114, 47, 52, 124, 115, 116, 114, 47, 53, 124, 115, 99, 114, 47, 54, 124, 115, 99, 114, 47, 54, 124, 115, 99, 114, 47, 56, 124, 45]⟩, .string ⟨#[45, 124, 45, 124, 45, 124, 45, 124, 116, 108, 102, 47, 50, 124, 116, 108, 102, 47, 51, 124, 116, 108, 102, 47, 51, 124, 116, 108, 102, 47, 51, 124, 116, 108, 102, 47, 51, 124, 45]⟩, .string ⟨#[45, 124, 45, 124, 115, 116, 97, 47, 50, 124, 105, 114, 99, 32, 115, 99, 114, 32, 115, 99, 97, 47, 56, 124, 52, 124, 53, 124, 115, 99, 97, 47, 56, 124, 115, 99, 97, 32, 116, 108, 117, 47, 57, 124, 115, 99, 97, 47, 56, 124, 116, 108, 100, 32, 115, 99, 114, 32, 115, 99, 97, 47, 56]⟩, .string ⟨#[45, 124, 45, 124, 115, 116, 97, 47, 50, 124, 105, 114, 99, 32, 115, 99, 114, 32, 115, 99, 110, 47, 54, 124, 52, 124, 53, 124, 115, 99, 110, 47, 54, 124, 115, 99, 110, 47, 55, 124, 115, 99, 110, 47, 54, 124, 116, 108, 100, 32, 115, 99, 114, 32, 115, 99, 110, 47, 54]⟩, .string ⟨#[45, 124, 45, 124, 115, 116, 97, 47, 50, 124, 115, 116, 97, 47, 51, 124, 52, 124, 53, 124, 105, 114, 99, 47, 55, 124, 115, 99, 114, 47, 54, 124, 105, 114, 99, 32, 116, 108, 117, 47, 57, 124, 116, 108, 100, 32, 115, 99, 114, 47, 54]⟩, .string ⟨#[45, 124, 45, 124, 115, 116, 97, 47, 50, 124, 115, 116, 97, 47, 51, 124, 52, 124, 53, 124, 105, 114, 99, 32, 115, 99, 114, 47, 54, 124, 115, 99, 114, 47, 54, 124, 105, 114, 99, 32, 115, 99, 114, 47, 56, 124, 116, 108, 100, 32, 115, 99, 114, 47, 54]⟩, .string ⟨#[45, 124, 45, 124, 115, 116, 97, 47, 50, 124, 115, 116, 97, 47, 51, 124, 115, 116, 97, 47, 52, 124, 115, 116, 97, 47, 53, 124, 115, 116, 97, 47, 54, 124, 115, 116, 97, 47, 54, 124, 115, 116, 97, 47, 54, 124, 116, 108, 100, 32, 122, 114, 99, 32, 115, 116, 97, 47, 53]⟩, .string ⟨#[45, 124, 45, 124, 50, 124, 51, 124, 116, 108, 102, 47, 50, 124, 116, 108, 102, 47, 51, 124, 54, 124, 54, 124, 56, 124, 116, 108, 100, 32, 115, 99, 114, 47, 54]⟩, .string ⟨#[45, 124, 45, 124, 115, 99, 106, 47, 50, 124, 115, 99, 106, 47, 51, 124, 115, 99, 106, 47, 52, 124, 115, 99, 106, 47, 53, 124, 115, 99, 106, 47, 54, 124, 115, 99, 106, 47, 55, 124, 115, 99, 106, 47, 56, 124, 115, 99, 106, 47, 57]⟩, .string ⟨#[45, 124, 45, 124, 50, 124, 51, 124, 52, 124, 53, 124, 54, 124, 54, 124, 56, 124, 57]⟩, .string ⟨#[45, 124, 45, 124, 116, 108, 102, 47, 50, 124, 116, 108, 102, 47, 51, 124, 116, 108, 102, 47, 50, 124, 116, 108, 102, 47, 51, 124, 116, 108, 102, 47, 51, 124, 116, 108, 102, 47, 51, 124, 116, 108, 102, 47, 51, 124, 116, 108, 100, 32, 105, 114, 99, 32, 115, 116, 114, 47, 53]⟩, .string ⟨#[45, 124, 45, 124, 50, 124, 51, 124, 52, 124, 53, 124, 54, 124, 55, 124, 56, 124, 115, 101, 114, 47, 57]⟩] 9 (0, 0))).heap[w.heap.size]? = some _ := heap_alloc_new w _
 have hc : (w.alloc (.cells #[.string ⟨#[50, 124, 105, 114, 99, 32, 115, 99, 114, 47, 54, 124, 45, 124, 45, 124, 45, 124, 45, 124, 45, 124, 45, 124, 45, 124, 45]⟩, .string ⟨#[45, 124, 45, 124, 48, 124, 116, 108, 115, 47, 49, 124, 48, 124, 49, 124, 49, 124, 49, 124, 49, 124, 116, 108, 100, 47, 49]⟩, .string ⟨#[116, 108, 115, 47, 49, 124, 49, 124, 105, 114, 99, 32, 115, 99, 114, 47, 54, 124, 51, 124, 53, 124, 53, 124, 54, 124, 55, 124, 56, 124, 57]⟩, .string ⟨#[48, 124, 116, 108, 102, 47, 48, 124, 50, 124, 50, 124, 52, 124, 52, 124, 105, 114, 99, 32, 115, 116, 114, 47, 52, 124, 105, 114, 99, 32, 115, 116, 114, 47, 52, 124, 105, 114, 99, 32, 115, 116, 114, 47, 52, 124, 116, 108, 100, 32, 105, 114, 99, 32, 115, 116, 114, 47, 52]⟩, .string ⟨#[45, 124, 45, 124, 45, 124, 45, 124, 115, 116, 114, 47, 52, 124, 115, 116, 114, 47, 53, 124, 115, 99, 114, 47, 54, 124, 115, 99, 114, 47, 54, 124, 115, 99, 114, 47, 56, 124, 45]⟩, .string ⟨#[45, 124, 45, 124, 45, 124, 45, 124, 116, 108, 102, 47, 50, 124, 116, 108, 102, 47, 51, 124, 116, 108, 102, 47, 51, 124, 116, 108, 102, 47, 51, 124, 116, 108, 102, 47, 51, 124, 45]⟩, .string ⟨#[45, 124, 45, 124, 115, 116, 97, 47, 50, 124, 105, 114, 99, 32, 115, 99, 114, 32, 115, 99, 97, 47, 56, 124, 52, 124, 53, 124, 115, 99, 97, 47, 56, 124, 115, 99, 97, 32, 116, 108, 117, 47, 57, 124, 115, 99, 97, 47, 56, 124, 116, 108, 100, 32, 115, 99, 114, 32, 115, 99, 97, 47, 56]⟩, .string ⟨#[45, 124, 45, 124, 115, 116, 97, 47, 50, 124, 105, 114, 99, 32, 115, 99, 114, 32, 115, 99, 110, 47, 54, 124, 52, 124, 53, 124, 115, 99, 110, 47, 54, 124, 115, 99, 110, 47, 55, 124, 115, 99, 110, 47, 54, 124, 116, 108, 100, 32, 115, 99, 114, 32, 115, 99, 110, 47, 54]⟩, .string ⟨#[45, 124, 45, 124, 115, 116, 97, 47, 50, 124, 115, 116, 97, 47, 51, 124, 52, 124, 53, 124, 105, 114, 99, 47, 55, 124, 115, 99, 114, 47, 54, 124, 105, 114, 99, 32, 116, 108, 117, 47, 57, 124, 116, 108, 100, 32, 115, 99, 114, 47, 54]⟩, .string ⟨#[45, 124, 45, 124, 115, 116, 97, 47, 50, 124, 115, 116, 97, 47, 51, 124, 52, 124, 53, 124, 105, 114, 99, 32, 115, 99, 114, 47, 54, 124, 115, 99, 114, 47, 54, 124, 105, 114, 99, 32, 115, 99, 114, 47, 56, 124, 116, 108, 100, 32, 115, 99, 114, 47, 54]⟩, .string ⟨#[45, 124, 45, 124, 115, 116, 97, 47, 50, 124, 115, 116, 97, 47, 51, 124, 115, 116, 97, 47, 52, 124, 115, 116, 97, 47, 53, 124, 115, 116, 97, 47, 54, 124, 115, 116, 97, 47, 54, 124, 115, 116, 97, 47, 54, 124, 116, 108, 100, 32, 122, 114, 99, 32, 115, 116, 97, 47, 53]⟩, .string ⟨#[45, 124, 45, 124, 50, 124, 51, 124, 116, 108, 102, 47, 50, 124, 116, 108, 102, 47, 51, 124, 54, 124, 54, 124, 56, 124, 116, 108, 100, 32, 115, 99, 114, 47, 54]⟩, .string ⟨#[45, 124, 45, 124, 115, 99, 106, 47, 50, 124, 115, 99, 106, 47, 51, 124, 115, 99, 106, 47, 52, 124, 115, 99, 106, 47, 53, 124, 115, 99, 106, 47, 54, 124, 115, 99, 106, 47, 55, 124, 115, 99, 106, 47, 56, 124, 115, 99, 106, 47, 57]⟩, .string ⟨#[45, 124, 45, 124, 50, 124, 51, 124, 52, 124, 53, 124, 54, 124, 54, 124, 56, 124, 57]⟩, .string ⟨#[45, 124, 45, 124, 116, 108, 102, 47, 50, 124, 116, 108, 102, 47, 51, 124, 116, 108, 102, 47, 50, 124, 116, 108, 102, 47, 51, 124, 116, 108, 102, 47, 51, 124, 116, 108, 102, 47, 51, 124, 116, 108, 102, 47, 51, 124, 116, 108, 100, 32, 105, 114, 99, 32, 115, 116, 114, 47, 53]⟩, .string ⟨#[45, 124, 45, 124, 50, 124, 51, 124, 52, 124, 53, 124, 54, 124, 55, 124, 56, 124, 115, 101, 114, 47, 57]⟩] 9 (0, 0))).cell? ⟨w.heap.size, e, none⟩ = some (.string (rowE (e : Int))) := by
  simp only [World.cell?, hx]; exact rowE_at e he
 have hlen := rowE_len e he; unfold entryE at hR; generalize rowE (e : Int) = b at *; have HB0 := H_ hb0; have HR := H_ hR; clear hb0 hx hR; go_enter Tryz.func64, Tryz.ntmps64; go_wp2_with fail
 go_loopg [7, 8, 10] (b.size + 2) (fun x aa ff ii wr => ∃ (i a fr : Nat), i <= b.size + 1 /\ a <= i /\ fr <= i /\ x = b.size + 2 - i /\ ii = .int .i64 (i : Int) /\ aa = .int .i64 (a : Int) /\ ff = .int .i64 (fr : Int) /\ Hid (scanE b (s : Int) (b.size + 2 - i) i (a : Int) fr = some (rw', rt) /\ Below w.heap.size w wr))
 case atStart => exact ⟨0, 0, 0, by omega, by omega, by omega, by omega, rfl, rfl, rfl, HR.out, HB0.out⟩
 case round =>
  obtain ⟨i, a, fr, hi, ha, hfr, rfl, rfl, rfl, rfl, hK⟩ := hrel; have HK := H_ hK.out.2; have hscan := hK.out.1; rw [show b.size + 2 - i = (b.size + 1 - i) + 1 by omega] at hscan; have hcase := scan_le hscan; have HN := H_ (fun (i' : Nat) (h : i' = i + 1) => show b.size + 1 - i = b.size + 2 - i' by omega); clear hK hscan HR
  rcases hcase with ⟨h1, h2⟩ | ⟨h1, h2, h3⟩ | ⟨h1, h2, h3⟩ | ⟨h1, h2, h3, h4⟩ | ⟨h1, h2, h3, h4, h5⟩ | ⟨h1, h2, h3, h4, h5⟩
  . cases h2
    go_wp2_with fail; go_ret2; exact ⟨rfl, HK.out⟩
  . have hx := getD_get b i h1; rw [hx] at h2; have H3 := H_ h3; clear h3 hx
    have h4 : (b[i].toNat : Int) ≠ 124 := by
     intro h; exact h2 (UInt8.toNat.inj (by rw [show (124 : UInt8).toNat = 124 from rfl]; omega))
    clear h2; go_wp2_with fail
    go_roundg (b.size + 2 - (i + 1))
    case measure => omega
    case rel => exact ⟨i + 1, a, fr, by omega, by omega, by omega, rfl, by go_num, rfl, rfl, by rw [<- HN.out (i + 1) rfl]; exact H3.out, HK.out⟩
  . have H3 := H_ h3; clear h3; have h2' : ¬ ((a : Int) = (s : Int)) := h2
    rcases h1 with h1 | ⟨h1, h5⟩
    . subst h1; go_wp2_with fail
      go_roundg (b.size + 2 - (b.size + 1))
      case measure => omega
      case rel => exact ⟨b.size + 1, a + 1, b.size + 1, by omega, by omega, by omega, rfl, by go_num, by go_num, by go_num, by rw [<- HN.out (b.size + 1) rfl]; exact H3.out, HK.out⟩
    . have hx := getD_get b i h1; rw [hx] at h5; have h4 : (b[i].toNat : Int) = 124 := by rw [h5]; rfl
      clear h5 hx; go_wp2_with fail
      go_roundg (b.size + 2 - (i + 1))
      case measure => omega
      case rel => exact ⟨i + 1, a + 1, i + 1, by omega, by omega, by omega, rfl, by go_num, by go_num, by go_num, by rw [<- HN.out (i + 1) rfl]; exact H3.out, HK.out⟩
  . cases h4
    have h2' : (a : Int) = (s : Int) := h2; have h3' : b.extract fr i = (⟨#[45]⟩ : ByteArray) := h3; clear h3 h2
    rcases h1 with h1 | ⟨h1, h5⟩
    . subst h1; go_wp2_with fail; go_ret2; exact ⟨rfl, HK.out⟩
    . have hx := getD_get b i h1; rw [hx] at h5; have h4 : (b[i].toNat : Int) = 124 := by rw [h5]; rfl
      clear h5 hx; go_wp2_with fail; go_ret2; exact ⟨rfl, HK.out⟩
  . have h2' : (a : Int) = (s : Int) := h2; have h6 : i <= b.size := by omega
    have hw : (b.extract fr i).size = min i b.size - fr := ByteArray.size_extract; have hws : (b.extract fr i).size <= 100 := by omega
    obtain ⟨wd, hwd⟩ : ∃ wd, b.extract fr i = wd := ⟨_, rfl⟩; rw [hwd] at h3 h4 h5 hws
    have hq : (wd.toList == [45]) = false := by
     cases hh : (wd.toList == [45]) with
     | false => rfl
     | true =>
      have := eq_of_beq hh; rw [ByteArray.toList_eq] at this; exact absurd (ByteArray.ext (Array.ext' this)) h3
    have h4' : (1 : Int) < (wd.size : Int) := by omega
    cases h5
    clear h3 h2 hw; have hw2 : IntKind.i64.wrap ((wd.size : Int) - 2) = ((wd.size - 2 : Nat) : Int) := by rw [IntWalk.i64_in _ (by omega)]; omega
    have hw1 : IntKind.i64.wrap ((wd.size : Int) - 1) = ((wd.size - 1 : Nat) : Int) := by rw [IntWalk.i64_in _ (by omega)]; omega
    have hl2 : ((wd.size - 2 : Nat) : Int) <= (wd.size : Int) := by omega
    have hl1 : ((wd.size - 1 : Nat) : Int) < (wd.size : Int) := by omega
    have hl3 : wd.size - 1 < wd.size := by omega
    have hg := getD_get wd (wd.size - 1) (by omega); have hx0 : (48 : Int) <= ((wd[wd.size - 1]'(by omega)).toNat : Int) := by rw [<- hg]; omega
    have hx1 : ((wd[wd.size - 1]'(by omega)).toNat : Int) < 256 := by have := (wd[wd.size - 1]'(by omega)).toNat_lt; omega
    have hwy : IntKind.i64.wrap (((wd[wd.size - 1]'(by omega)).toNat : Int) - 48) = ((wd[wd.size - 1]'(by omega)).toNat : Int) - 48 := IntWalk.i64_in _ (by omega)
    have hwx : IntKind.u8.wrap (((wd[wd.size - 1]'(by omega)).toNat : Int) - 48) = ((wd[wd.size - 1]'(by omega)).toNat : Int) - 48 := by
     unfold IntKind.wrap; simp [IntKind.bits, IntKind.signed]; omega
    rcases h1 with h1 | ⟨h1, h5⟩
    . subst h1; go_wp2_with fail; refine wp_region_H (rgH 0 0) (fun _ => True) (by kernel_rfl) ?_; refine hatP 0 rfl (by intro W _; go_simp; try rfl) ?_; simp only [aZ, aC, aD]; refine hatP 1 rfl (by intro W _; go_simp; try rfl) ?_; simp only [aZ, aC, aD]; refine hatP 2 rfl (by intro W _; go_simp; try rfl) ?_; simp only [aZ, aC, aD]; refine hatP 3 rfl (by intro W _; go_simp; try rfl) ?_; simp only [aZ, aC, aD]; refine hatP 4 rfl (by intro W _; go_simp; try rfl) ?_; simp only [aZ, aC, aD]; refine hatP 5 rfl (by intro W _; go_simp; try rfl) ?_; simp only [aZ, aC, aD]; refine hatP 6 rfl (by intro W _; go_simp; try rfl) ?_; simp only [aZ, aC, aD]; refine hatP 7 rfl (by intro W _; go_simp; try rfl) ?_; simp only [aZ, aC, aD]; refine hatP 8 rfl (by intro W _; go_simp; try rfl) ?_; simp only [aZ, aC, aD]; refine hatP 9 rfl (by intro W _; go_simp; try rfl) ?_; simp only [aZ, aC, aD]; refine hatP 10 rfl (by intro W _; go_simp; try rfl) ?_; simp only [aZ, aC, aD]; refine hatP 11 rfl (by intro W _; go_simp; try rfl) ?_; simp only [aZ, aC, aD]; refine hend 12 ?_; simp only [aF, aG]; go_wp2_with fail; go_ret2; exact ⟨by rw [hg]; rfl, HK.out.drew⟩
    . have hx := getD_get b i h1; rw [hx] at h5; have h7 : (b[i].toNat : Int) = 124 := by rw [h5]; rfl
      clear h5 hx; go_wp2_with fail; refine wp_region_H (rgH 0 0) (fun _ => True) (by kernel_rfl) ?_; refine hatP 0 rfl (by intro W _; go_simp; try rfl) ?_; simp only [aZ, aC, aD]; refine hatP 1 rfl (by intro W _; go_simp; try rfl) ?_; simp only [aZ, aC, aD]; refine hatP 2 rfl (by intro W _; go_simp; try rfl) ?_; simp only [aZ, aC, aD]; refine hatP 3 rfl (by intro W _; go_simp; try rfl) ?_; simp only [aZ, aC, aD]; refine hatP 4 rfl (by intro W _; go_simp; try rfl) ?_; simp only [aZ, aC, aD]; refine hatP 5 rfl (by intro W _; go_simp; try rfl) ?_; simp only [aZ, aC, aD]; refine hatP 6 rfl (by intro W _; go_simp; try rfl) ?_; simp only [aZ, aC, aD]; refine hatP 7 rfl (by intro W _; go_simp; try rfl) ?_; simp only [aZ, aC, aD]; refine hatP 8 rfl (by intro W _; go_simp; try rfl) ?_; simp only [aZ, aC, aD]; refine hatP 9 rfl (by intro W _; go_simp; try rfl) ?_; simp only [aZ, aC, aD]; refine hatP 10 rfl (by intro W _; go_simp; try rfl) ?_; simp only [aZ, aC, aD]; refine hatP 11 rfl (by intro W _; go_simp; try rfl) ?_; simp only [aZ, aC, aD]; refine hend 12 ?_; simp only [aF, aG]; go_wp2_with fail; go_ret2; exact ⟨by rw [hg]; rfl, HK.out.drew⟩
  . have h2' : (a : Int) = (s : Int) := h2; have h6 : i <= b.size := by omega
    obtain ⟨wd, hwd⟩ : ∃ wd, b.extract fr i = wd := ⟨_, rfl⟩; rw [hwd] at h3 h4 h5
    have hq : (wd.toList == [45]) = false := by
     cases hh : (wd.toList == [45]) with
     | false => rfl
     | true =>
      have := eq_of_beq hh; rw [ByteArray.toList_eq] at this; exact absurd (ByteArray.ext (Array.ext' this)) h3
    have hl3 : 0 < wd.size := by omega
    cases h5
    clear h3 h2; have hg := getD_get wd 0 hl3; have hx0 : (48 : Int) <= ((wd[0]'hl3).toNat : Int) := by rw [<- hg]; omega
    have hx1 : ((wd[0]'hl3).toNat : Int) < 256 := by have := (wd[0]'hl3).toNat_lt; omega
    have hwy : IntKind.i64.wrap (((wd[0]'hl3).toNat : Int) - 48) = ((wd[0]'hl3).toNat : Int) - 48 := IntWalk.i64_in _ (by omega)
    have hwx : IntKind.u8.wrap (((wd[0]'hl3).toNat : Int) - 48) = ((wd[0]'hl3).toNat : Int) - 48 := by
     unfold IntKind.wrap; simp [IntKind.bits, IntKind.signed]; omega
    rcases h1 with h1 | ⟨h1, h5⟩
    . subst h1; go_wp2_with fail; refine wp_region_H (rgH 0 0) (fun _ => True) (by kernel_rfl) ?_; refine hatP 0 rfl (by intro W _; go_simp; try rfl) ?_; simp only [aZ, aC, aD]; refine hatP 1 rfl (by intro W _; go_simp; try rfl) ?_; simp only [aZ, aC, aD]; refine hatP 2 rfl (by intro W _; go_simp; try rfl) ?_; simp only [aZ, aC, aD]; refine hatP 3 rfl (by intro W _; go_simp; try rfl) ?_; simp only [aZ, aC, aD]; refine hatP 4 rfl (by intro W _; go_simp; try rfl) ?_; simp only [aZ, aC, aD]; refine hend 5 ?_; simp only [aF, aG]; go_wp2_with fail; go_ret2; exact ⟨by rw [hg]; rfl, HK.out.drew⟩
    . have hx := getD_get b i h1; rw [hx] at h5; have h7 : (b[i].toNat : Int) = 124 := by rw [h5]; rfl
      clear h5 hx; go_wp2_with fail; refine wp_region_H (rgH 0 0) (fun _ => True) (by kernel_rfl) ?_; refine hatP 0 rfl (by intro W _; go_simp; try rfl) ?_; simp only [aZ, aC, aD]; refine hatP 1 rfl (by intro W _; go_simp; try rfl) ?_; simp only [aZ, aC, aD]; refine hatP 2 rfl (by intro W _; go_simp; try rfl) ?_; simp only [aZ, aC, aD]; refine hatP 3 rfl (by intro W _; go_simp; try rfl) ?_; simp only [aZ, aC, aD]; refine hatP 4 rfl (by intro W _; go_simp; try rfl) ?_; simp only [aZ, aC, aD]; refine hend 5 ?_; simp only [aF, aG]; go_wp2_with fail; go_ret2; exact ⟨by rw [hg]; rfl, HK.out.drew⟩
theorem str_eq {wd : ByteArray} {l : List UInt8} (h : wd = bs l) : (wd.toList == l) = true := by
 subst h; rw [ByteArray.toList_eq]
 show (l.toArray.toList == l) = true
 simp
theorem str_ne {wd : ByteArray} {l : List UInt8} (h : ¬ wd = bs l) : (wd.toList == l) = false := by
 cases hh : (wd.toList == l) with
 | false => rfl
 | true =>
  have := eq_of_beq hh; rw [ByteArray.toList_eq] at this; exact absurd (ByteArray.ext (by rw [<- this]; rfl)) h
theorem action_any (wd : ByteArray) (w : World) : Calls Tryz.prog 65 #[.string wd] w fun e w' => e = .returned (.int .i64 (actE wd)) /\ w = w' := by
 by_cases h0 : wd = bs [116, 108, 117]
 . have q0 := str_eq h0; have he : actE wd = 0 := by unfold actE; rw [if_pos h0]
   rw [he]; clear he h0; go_enter Tryz.func65, Tryz.ntmps65; go_wp2_with fail; go_ret; exact ⟨rfl, rfl⟩
 have q0 := str_ne h0
 by_cases h1 : wd = bs [116, 108, 100]
 . have q1 := str_eq h1; have he : actE wd = 1 := by unfold actE; rw [if_neg h0, if_pos h1]
   rw [he]; clear he h0 h1; go_enter Tryz.func65, Tryz.ntmps65; go_wp2_with fail; go_ret; exact ⟨rfl, rfl⟩
 have q1 := str_ne h1
 by_cases h2 : wd = bs [116, 108, 115]
 . have q2 := str_eq h2; have he : actE wd = 2 := by unfold actE; rw [if_neg h0, if_neg h1, if_pos h2]
   rw [he]; clear he h0 h1 h2; go_enter Tryz.func65, Tryz.ntmps65; go_wp2_with fail; go_ret; exact ⟨rfl, rfl⟩
 have q2 := str_ne h2
 by_cases h3 : wd = bs [116, 108, 102]
 . have q3 := str_eq h3; have he : actE wd = 3 := by unfold actE; rw [if_neg h0, if_neg h1, if_neg h2, if_pos h3]
   rw [he]; clear he h0 h1 h2 h3; go_enter Tryz.func65, Tryz.ntmps65; go_wp2_with fail; go_ret; exact ⟨rfl, rfl⟩
 have q3 := str_ne h3
 by_cases h4 : wd = bs [105, 114, 99]
 . have q4 := str_eq h4; have he : actE wd = 4 := by unfold actE; rw [if_neg h0, if_neg h1, if_neg h2, if_neg h3, if_pos h4]
   rw [he]; clear he h0 h1 h2 h3 h4; go_enter Tryz.func65, Tryz.ntmps65; go_wp2_with fail; go_ret; exact ⟨rfl, rfl⟩
 have q4 := str_ne h4
 by_cases h5 : wd = bs [122, 114, 99]
 . have q5 := str_eq h5; have he : actE wd = 5 := by unfold actE; rw [if_neg h0, if_neg h1, if_neg h2, if_neg h3, if_neg h4, if_pos h5]
   rw [he]; clear he h0 h1 h2 h3 h4 h5; go_enter Tryz.func65, Tryz.ntmps65; go_wp2_with fail; go_ret; exact ⟨rfl, rfl⟩
 have q5 := str_ne h5
 by_cases h6 : wd = bs [115, 99, 114]
 . have q6 := str_eq h6; have he : actE wd = 6 := by unfold actE; rw [if_neg h0, if_neg h1, if_neg h2, if_neg h3, if_neg h4, if_neg h5, if_pos h6]
   rw [he]; clear he h0 h1 h2 h3 h4 h5 h6; go_enter Tryz.func65, Tryz.ntmps65; go_wp2_with fail; go_ret; exact ⟨rfl, rfl⟩
 have q6 := str_ne h6
 by_cases h7 : wd = bs [115, 99, 97]
 . have q7 := str_eq h7; have he : actE wd = 7 := by unfold actE; rw [if_neg h0, if_neg h1, if_neg h2, if_neg h3, if_neg h4, if_neg h5, if_neg h6, if_pos h7]
   rw [he]; clear he h0 h1 h2 h3 h4 h5 h6 h7; go_enter Tryz.func65, Tryz.ntmps65; go_wp2_with fail; go_ret; exact ⟨rfl, rfl⟩
 have q7 := str_ne h7
 by_cases h8 : wd = bs [115, 99, 110]
 . have q8 := str_eq h8; have he : actE wd = 8 := by unfold actE; rw [if_neg h0, if_neg h1, if_neg h2, if_neg h3, if_neg h4, if_neg h5, if_neg h6, if_neg h7, if_pos h8]
   rw [he]; clear he h0 h1 h2 h3 h4 h5 h6 h7 h8; go_enter Tryz.func65, Tryz.ntmps65; go_wp2_with fail; go_ret; exact ⟨rfl, rfl⟩
 have q8 := str_ne h8
 by_cases h9 : wd = bs [115, 116, 114]
 . have q9 := str_eq h9; have he : actE wd = 9 := by unfold actE; rw [if_neg h0, if_neg h1, if_neg h2, if_neg h3, if_neg h4, if_neg h5, if_neg h6, if_neg h7, if_neg h8, if_pos h9]
   rw [he]; clear he h0 h1 h2 h3 h4 h5 h6 h7 h8 h9; go_enter Tryz.func65, Tryz.ntmps65; go_wp2_with fail; go_ret; exact ⟨rfl, rfl⟩
 have q9 := str_ne h9
 by_cases h10 : wd = bs [115, 116, 97]
 . have q10 := str_eq h10; have he : actE wd = 10 := by unfold actE; rw [if_neg h0, if_neg h1, if_neg h2, if_neg h3, if_neg h4, if_neg h5, if_neg h6, if_neg h7, if_neg h8, if_neg h9, if_pos h10]
   rw [he]; clear he h0 h1 h2 h3 h4 h5 h6 h7 h8 h9 h10; go_enter Tryz.func65, Tryz.ntmps65; go_wp2_with fail; go_ret; exact ⟨rfl, rfl⟩
 have q10 := str_ne h10
 by_cases h11 : wd = bs [115, 99, 106]
 . have q11 := str_eq h11; have he : actE wd = 11 := by unfold actE; rw [if_neg h0, if_neg h1, if_neg h2, if_neg h3, if_neg h4, if_neg h5, if_neg h6, if_neg h7, if_neg h8, if_neg h9, if_neg h10, if_pos h11]
   rw [he]; clear he h0 h1 h2 h3 h4 h5 h6 h7 h8 h9 h10 h11; go_enter Tryz.func65, Tryz.ntmps65; go_wp2_with fail; go_ret; exact ⟨rfl, rfl⟩
 have q11 := str_ne h11; have he : actE wd = 12 := by unfold actE; rw [if_neg h0, if_neg h1, if_neg h2, if_neg h3, if_neg h4, if_neg h5, if_neg h6, if_neg h7, if_neg h8, if_neg h9, if_neg h10, if_neg h11]
 rw [he]; clear he h0 h1 h2 h3 h4 h5 h6 h7 h8 h9 h10 h11; go_enter Tryz.func65, Tryz.ntmps65; go_wp2_with fail; go_ret; exact ⟨rfl, rfl⟩
def entOk : Bool := (List.range 10).all fun s => (List.range 16).all fun e => match entryE (s : Int) (e : Int) with
 | some r => decide (r.1.size <= 20) && decide (0 <= r.2)
 | none => false
theorem ent_ok : entOk = true := by decide +kernel
theorem ent_some (s e : Nat) (hs : s < 10) (he : e < 16) : ∃ wd t, entryE (s : Int) (e : Int) = some (wd, t) /\ wd.size <= 20 /\ 0 <= t := by
 have h := ent_ok; unfold entOk at h; have ha := List.all_eq_true.1 h s (List.mem_range.2 hs); have hb := List.all_eq_true.1 ha e (List.mem_range.2 he)
 cases hE : entryE (s : Int) (e : Int) with
 | none => rw [hE] at hb; cases hb
 | some r =>
  rw [hE] at hb; simp only [Bool.and_eq_true, decide_eq_true_eq] at hb; exact ⟨r.1, r.2, rfl, hb.1, hb.2⟩
set_option maxRecDepth 100000 in
theorem rnext_in (s e : Nat) (hs : s < 10) (he : e < 16) (w : World) :
 Calls Tryz.prog 8 #[.int .i64 (s : Int), .int .i64 (e : Int)] w fun en w' => ∃ v, en = .returned (.tuple #[.int .i64 (nextS s e), v]) /\ Laid 3 1 w w' v (nextL s e).length (iV (nextL s e)) := by
 obtain ⟨wd, t, hE, hsz, h0⟩ := ent_some s e hs he; have hN := ref_next s e (by omega) (by omega) (by omega) (by omega); unfold refE at hN; rw [hE] at hN; simp only [Option.map_some, Option.some.injEq, Prod.mk.injEq] at hN; obtain ⟨hN1, hN2⟩ := hN; have HN := H_ (A_ hN1 hN2); have HE := H_ (entry_any s e hs he wd t h0 hE w); rw [<- hN1, <- hN2]; clear hN1 hN2 hE hs he h0; go_enter Tryz.func8, Tryz.ntmps8; go_wp2_with fail; refine HE.out.mono ?_; rintro en w1 ⟨rfl, hb1⟩; have HB1 := H_ hb1; clear hb1; go_wp2_with fail
 go_loopg [8, 9] (wd.size + 1) (fun x out ii wr => ∃ (j : Nat) (done : List Int), j <= wd.size /\ x = wd.size + 1 - j /\ ii = .int .i64 ((4 * j : Nat) : Int) /\ done.length = j /\ Hid (actsE wd (wd.size + 1) 0 = done ++ actsE wd (wd.size + 1 - j) (4 * j) /\ Laid 3 1 w wr out j (iV done)))
 case atStart => exact ⟨0, [], by omega, by omega, rfl, rfl, rfl, BRow.nil _ _ _, HB1.out, fun g h => by cases h⟩
 case round =>
  obtain ⟨j, done, hj, rfl, rfl, hd, hK⟩ := hrel; have HK := H_ hK.out; clear hK
  by_cases hlt : 4 * j + 3 <= wd.size
  . have hA : actsE wd (wd.size + 1 - j) (4 * j) = actE (wd.extract (4 * j) (4 * j + 3)) :: actsE wd (wd.size + 1 - (j + 1)) (4 * (j + 1)) := by
     rw [show wd.size + 1 - j = (wd.size + 1 - (j + 1)) + 1 by omega, actsE, if_pos hlt]; rfl
    have HA := H_ hA; have hcast : ((4 * j : Nat) : Int) + 3 = ((4 * j + 3 : Nat) : Int) := by omega
    clear hA; obtain ⟨so, co, eo, -, -⟩ := HK.out.2.r.form; subst eo
    go_wp2_with (first
     | (go_at_call 65; refine (action_any (wd.extract (4 * j) (4 * j + 3)) _).mono ?_; rintro en w2 ⟨rfl, rfl⟩)
     | (
      at_builtin; refine wpl_append_rec int_row rfl _ _ rfl _ j (iV done) rfl (HK.out.2.r.below (b1 _ _)) _ _ [.int .i64 (actE (wd.extract (4 * j) (4 * j + 3)))] rfl (cell_of_at _ _ _ rfl) rfl (fun u hu => by rw [List.mem_singleton.1 hu]; rfl) (by omega) ?_
      intro g6 c6 w6 h6 k6 o6; have H6 := H_ (A_ h6 (A_ k6 o6))
      clear h6 k6 o6))
    go_roundg (wd.size + 1 - (j + 1))
    case measure => omega
    case rel =>
     refine ⟨j + 1, done ++ [actE (wd.extract (4 * j) (4 * j + 3))], by omega, rfl, by go_num, by simp [hd], ?_, ?_⟩
     . rw [HK.out.1, HA.out, List.append_assoc]; rfl
     . rw [iV_app]; exact HK.out.2.app (b1 _ _) H6.out.1 H6.out.2.1 (H6.out.2.2.imp (fun h => h.symm) (fun h => by rw [h]; rfl))
  . have hA : actsE wd (wd.size + 1) 0 = done := by
     rw [HK.out.1, show wd.size + 1 - j = (wd.size + 1 - (j + 1)) + 1 by omega, actsE, if_neg hlt, List.append_nil]
    have HA := H_ hA; clear hA; go_wp2_with fail; go_ret2; rw [HA.out]; exact ⟨_, rfl, by rw [hd]; exact HK.out.2⟩
theorem entry_out (s e : Int) (h : ¬ (0 <= s /\ s <= 9 /\ 0 <= e /\ e <= 15)) (w : World) :
 Calls Tryz.prog 64 #[.int .i64 s, .int .i64 e] w fun en w' => en = .returned (.tuple #[.string (bs []), .int .i64 s]) /\ Below w.heap.size w w' := by
 have hB := H_ (b1 w); have : s < 0 \/ (0 <= s /\ 9 < s) \/ (0 <= s /\ s <= 9 /\ e < 0) \/ (0 <= s /\ s <= 9 /\ 0 <= e /\ 16 <= e) := by omega
 clear h
 rcases this with h | ⟨h1, h⟩ | ⟨h1, h2, h⟩ | ⟨h1, h2, h3, h⟩
 all_goals go_enter Tryz.func64, Tryz.ntmps64
 all_goals go_wp2_with fail
 all_goals go_ret2
 all_goals exact ⟨rfl, hB.out _⟩
set_option maxRecDepth 100000 in
theorem rnext_out (s e : Int) (h : ¬ (0 <= s /\ s <= 9 /\ 0 <= e /\ e <= 15)) (w : World) :
 Calls Tryz.prog 8 #[.int .i64 s, .int .i64 e] w fun en w' => ∃ v, en = .returned (.tuple #[.int .i64 (nextS s e), v]) /\ Laid 3 1 w w' v (nextL s e).length (iV (nextL s e)) := by
 have HE := H_ (entry_out s e h w); obtain ⟨e1, e2⟩ := next_out s e h; rw [e1, e2]; clear h e1 e2; go_enter Tryz.func8, Tryz.ntmps8; go_wp2_with fail; refine HE.out.mono ?_; rintro en w1 ⟨rfl, hb1⟩; have HB1 := H_ hb1; clear hb1; have hz : (bs []).size = 0 := rfl; go_wp2_with fail; refine wp_loop_rounds 1 ?_; rw [rounds_succ]; go_wp2_with fail; go_ret2; exact ⟨_, rfl, BRow.nil _ _ _, HB1.out, fun g h => by cases h⟩
theorem rnext_any (s e : Int) (w : World) :
 Calls Tryz.prog 8 #[.int .i64 s, .int .i64 e] w fun en w' => ∃ v, en = .returned (.tuple #[.int .i64 (nextS s e), v]) /\ Laid 3 1 w w' v (nextL s e).length (iV (nextL s e)) := by
 by_cases h : 0 <= s /\ s <= 9 /\ 0 <= e /\ e <= 15
 . obtain ⟨h1, h2, h3, h4⟩ := h; obtain ⟨s, rfl⟩ := Int.eq_ofNat_of_zero_le h1; obtain ⟨e, rfl⟩ := Int.eq_ofNat_of_zero_le h3; exact rnext_in s e (by omega) (by omega) w
 . exact rnext_out s e h w
def RAt (w : World) (b : Nat) (s c cf tm : Int) : Prop := w.heap[b]? = some (.cells #[.int .i64 cf, .int .i64 tm, .int .i64 s, .int .i64 c] 56 (0, 0))
section
variable {w w' : World} {b : Nat} {s c cf tm : Int}
end
set_option maxRecDepth 100000 in
theorem rhas_any (xs : List Int) (v : Value) (x : Int) (w : World) (h : RowR w v xs.length (iV xs)) (hl : xs.length <= 1000000) :
 Calls Tryz.prog 143 #[v, .int .i64 x] w fun e w' => e = .returned (.bool (hasB xs x)) /\ w = w' := by
 obtain ⟨sa, c, rfl, hc, hm⟩ := h.form; obtain ⟨len, hln⟩ : ∃ len, len = xs.length := ⟨_, rfl⟩; have HLN := H_ hln; rw [<- hln] at h hc hl ⊢; have H := H_ h; clear hln h; go_enter Tryz.func143, Tryz.ntmps143; go_wp2_with fail
 go_loopg [5] len (fun y i wr => ∃ k : Nat, k <= len /\ y = len - k /\ i = .int .i64 k /\ w = wr /\ Hid (∀ z ∈ xs.take k, z ≠ x))
 case atStart => exact ⟨0, by omega, by omega, rfl, rfl, fun z hz => by simp at hz⟩
 case round =>
  obtain ⟨k, hk, rfl, rfl, rfl, hK⟩ := hrel
  by_cases hkl : k < len
  . have h1 : k < xs.length := by have := HLN.out; omega
    obtain ⟨g, rfl, hg, c0⟩ := RowR_int H.out k h1; have HT := H_ (show xs.take (k + 1) = xs.take k ++ [xs[k]] from List.take_succ_eq_append_getElem h1)
    by_cases he : xs[k] = x
    . have HH : Hid (hasB xs x = true) := H_ (by unfold hasB; rw [List.contains_iff_mem, <- he]; exact List.getElem_mem h1); rw [he] at c0; clear he; go_wp2_with fail; go_ret; rw [HH.out]; exact ⟨rfl, rfl⟩
    . have HE := H_ he; have hb : (xs[k] == x) = false := by simpa using he
      clear he; generalize xs[k] = y at *; go_wp2_with fail
      go_roundg (len - (k + 1))
      case measure => omega
      case rel => exact ⟨k + 1, by omega, rfl, by go_num, rfl, fun z hz => by
       rw [HT.out] at hz
       rcases List.mem_append.1 hz with hz | hz
       . exact hK.out z hz
       . rw [List.mem_singleton.1 hz]; exact HE.out⟩
  . have HH : Hid (hasB xs x = false) := H_ (by
     cases hc : hasB xs x with
     | false => rfl
     | true =>
      unfold hasB at hc; rw [List.contains_iff_mem] at hc
      exact absurd rfl (hK.out x (by rw [List.take_of_length_le (by have := HLN.out; omega)]; exact hc)))
    go_wp2_with fail; go_ret; rw [HH.out]; exact ⟨rfl, rfl⟩
structure RDo (w w' : World) (rb : Nat) (s c cf tm : Int) (v : Value) (xs : List Int) : Prop where
 at' : RAt w' rb s c cf tm
 row : RowR w' v xs.length (iV xs)
 kp : Keep (· = rb) w w'
 f : ∀ g, v.ownBlock = some g -> w.heap.size <= g
structure BookI (w : World) (bb : Nat) (D : KD) : Prop where
 blk : w.heap[bb]? = some (.cells (bookC D.v1 D.v2 nilS nilS nilS nilS) 42 (0, 0))
 i : ShelfV 3 43 1 w D
 eqs : ∀ i, i < D.n -> ∃ xs : List Int, xs.length = D.m i /\ D.cs i = iV xs /\ D.ds i = iV xs
section
variable {w w' : World} {bb : Nat} {D : KD}
structure MarkV (w : World) (bb : Nat) (D : KD) : Prop where
 blk : w.heap[bb]? = some (.cells (bookC D.v1 D.v2 nilS nilS nilS nilS) 42 (0, 0))
 x : XV 3 43 1 w D.v1 D.n D.X D.m (fun i => marksC mkI i 0 (D.m i))
structure GrownV (w : World) (bb : Nat) (D : KD) (g : Value) : Prop where
 blk : w.heap[bb]? = some (.cells (bookC D.v1 D.v2 nilS nilS nilS nilS) 42 (0, 0))
 g : ∃ G, RowR w g D.n ((List.range D.n).map G) /\ ∀ i, i < D.n -> RowR w (G i) (D.m i + 72) (marksC mkI i 0 (D.m i + 72))
 x : RowR w D.v1 D.n ((List.range D.n).map D.X) /\ ∀ i, i < D.n -> RowR w (D.X i) (D.m i) (marksC mkI i 0 (D.m i))
end
structure BookAdd (w w' : World) (bb : Nat) (D D' : KD) (x : Value) : Prop where
 b : BookI w' bb D'
 kp : Keep (fun g => g = bb \/ D.Has g) w w'
 has : ∀ g, D'.Has g -> D.Has g \/ x.ownBlock = some g \/ (w.heap.size <= g /\ g < w'.heap.size)
end Go.Proofs.YtignponfoheaeaaGreat
