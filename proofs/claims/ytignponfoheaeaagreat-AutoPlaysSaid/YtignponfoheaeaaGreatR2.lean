import Derived.Test.YtignponfoheaeaaGreatR1
import Derived.Test.YtignponfoheaeaaGreatB3
/- The reference's automaton, walked. -/
namespace Go.Proofs.YtignponfoheaeaaGreat
open Go.RowKit Go.Tg Go.Maps

theorem scan_le {b : ByteArray} {st : Int} {f i : Nat} {a : Int} {fr : Nat} {r : ByteArray × Int} (h : scanE b st (f + 1) i a fr = some r) :
    (b.size < i ∧ r = (bs [], st)) ∨ (i < b.size ∧ b.data.toList.getD i 0 ≠ 124 ∧ scanE b st f (i + 1) a fr = some r) ∨
    ((i = b.size ∨ (i < b.size ∧ b.data.toList.getD i 0 = 124)) ∧ a ≠ st ∧ scanE b st f (i + 1) (a + 1) (i + 1) = some r) ∨
    ((i = b.size ∨ (i < b.size ∧ b.data.toList.getD i 0 = 124)) ∧ a = st ∧ b.extract fr i = bs [45] ∧ r = (bs [], st)) ∨
    ((i = b.size ∨ (i < b.size ∧ b.data.toList.getD i 0 = 124)) ∧ a = st ∧ b.extract fr i ≠ bs [45] ∧ 1 < (b.extract fr i).size ∧ r = ((b.extract fr i).extract 0 ((b.extract fr i).size - 2), ((((b.extract fr i).data.toList.getD ((b.extract fr i).size - 1) 0).toNat : Int)) - 48)) ∨
    ((i = b.size ∨ (i < b.size ∧ b.data.toList.getD i 0 = 124)) ∧ a = st ∧ b.extract fr i ≠ bs [45] ∧ (b.extract fr i).size = 1 ∧ r = (bs [], (((b.extract fr i).data.toList.getD 0 0).toNat : Int) - 48)) := by
  unfold scanE at h
  by_cases h1 : i ≤ b.size
  · rw [if_pos h1] at h
    by_cases h2 : i < b.size ∧ b.data.toList.getD i 0 ≠ 124
    · rw [if_pos h2] at h
      exact .inr (.inl ⟨h2.1, h2.2, h⟩)
    · rw [if_neg h2] at h
      have h3 : i = b.size ∨ (i < b.size ∧ b.data.toList.getD i 0 = 124) := by
        by_cases h4 : i = b.size
        · exact .inl h4
        · refine .inr ⟨by omega, ?_⟩
          by_cases h5 : b.data.toList.getD i 0 = 124
          · exact h5
          · exact absurd ⟨by omega, h5⟩ h2
      by_cases h4 : a = st
      · rw [if_pos h4] at h
        by_cases h5 : b.extract fr i = bs [45]
        · rw [if_pos h5] at h
          exact .inr (.inr (.inr (.inl ⟨h3, h4, h5, (Option.some.inj h).symm⟩)))
        · rw [if_neg h5] at h
          by_cases h6 : 1 < (b.extract fr i).size
          · rw [if_pos h6] at h
            exact .inr (.inr (.inr (.inr (.inl ⟨h3, h4, h5, h6, (Option.some.inj h).symm⟩))))
          · rw [if_neg h6] at h
            by_cases h7 : (b.extract fr i).size = 1
            · rw [if_pos h7] at h
              exact .inr (.inr (.inr (.inr (.inr ⟨h3, h4, h5, h7, (Option.some.inj h).symm⟩))))
            · rw [if_neg h7] at h; cases h
      · rw [if_neg h4] at h
        exact .inr (.inr (.inl ⟨h3, h4, h⟩))
  · rw [if_neg h1] at h
    exact .inl ⟨by omega, (Option.some.inj h).symm⟩

theorem rowE_at (k : Nat) (hk : k < 16) : (#[.string ⟨#[50, 124, 105, 114, 99, 32, 115, 99, 114, 47, 54, 124, 45, 124, 45, 124, 45, 124, 45, 124, 45, 124, 45, 124, 45, 124, 45]⟩, .string ⟨#[45, 124, 45, 124, 48, 124, 116, 108, 115, 47, 49, 124, 48, 124, 49, 124, 49, 124, 49, 124, 49, 124, 116, 108, 100, 47, 49]⟩, .string ⟨#[116, 108, 115, 47, 49, 124, 49, 124, 105, 114, 99, 32, 115, 99, 114, 47, 54, 124, 51, 124, 53, 124, 53, 124, 54, 124, 55, 124, 56, 124, 57]⟩, .string ⟨#[48, 124, 116, 108, 102, 47, 48, 124, 50, 124, 50, 124, 52, 124, 52, 124, 105, 114, 99, 32, 115, 116, 114, 47, 52, 124, 105, 114, 99, 32, 115, 116, 114, 47, 52, 124, 105, 114, 99, 32, 115, 116, 114, 47, 52, 124, 116, 108, 100, 32, 105, 114, 99, 32, 115, 116, 114, 47, 52]⟩, .string ⟨#[45, 124, 45, 124, 45, 124, 45, 124, 115, 116, 114, 47, 52, 124, 115, 116, 114, 47, 53, 124, 115, 99, 114, 47, 54, 124, 115, 99, 114, 47, 54, 124, 115, 99, 114, 47, 56, 124, 45]⟩, .string ⟨#[45, 124, 45, 124, 45, 124, 45, 124, 116, 108, 102, 47, 50, 124, 116, 108, 102, 47, 51, 124, 116, 108, 102, 47, 51, 124, 116, 108, 102, 47, 51, 124, 116, 108, 102, 47, 51, 124, 45]⟩, .string ⟨#[45, 124, 45, 124, 115, 116, 97, 47, 50, 124, 105, 114, 99, 32, 115, 99, 114, 32, 115, 99, 97, 47, 56, 124, 52, 124, 53, 124, 115, 99, 97, 47, 56, 124, 115, 99, 97, 32, 116, 108, 117, 47, 57, 124, 115, 99, 97, 47, 56, 124, 116, 108, 100, 32, 115, 99, 114, 32, 115, 99, 97, 47, 56]⟩, .string ⟨#[45, 124, 45, 124, 115, 116, 97, 47, 50, 124, 105, 114, 99, 32, 115, 99, 114, 32, 115, 99, 110, 47, 54, 124, 52, 124, 53, 124, 115, 99, 110, 47, 54, 124, 115, 99, 110, 47, 55, 124, 115, 99, 110, 47, 54, 124, 116, 108, 100, 32, 115, 99, 114, 32, 115, 99, 110, 47, 54]⟩, .string ⟨#[45, 124, 45, 124, 115, 116, 97, 47, 50, 124, 115, 116, 97, 47, 51, 124, 52, 124, 53, 124, 105, 114, 99, 47, 55, 124, 115, 99, 114, 47, 54, 124, 105, 114, 99, 32, 116, 108, 117, 47, 57, 124, 116, 108, 100, 32, 115, 99, 114, 47, 54]⟩, .string ⟨#[45, 124, 45, 124, 115, 116, 97, 47, 50, 124, 115, 116, 97, 47, 51, 124, 52, 124, 53, 124, 105, 114, 99, 32, 115, 99, 114, 47, 54, 124, 115, 99, 114, 47, 54, 124, 105, 114, 99, 32, 115, 99, 114, 47, 56, 124, 116, 108, 100, 32, 115, 99, 114, 47, 54]⟩, .string ⟨#[45, 124, 45, 124, 115, 116, 97, 47, 50, 124, 115, 116, 97, 47, 51, 124, 115, 116, 97, 47, 52, 124, 115, 116, 97, 47, 53, 124, 115, 116, 97, 47, 54, 124, 115, 116, 97, 47, 54, 124, 115, 116, 97, 47, 54, 124, 116, 108, 100, 32, 122, 114, 99, 32, 115, 116, 97, 47, 53]⟩, .string ⟨#[45, 124, 45, 124, 50, 124, 51, 124, 116, 108, 102, 47, 50, 124, 116, 108, 102, 47, 51, 124, 54, 124, 54, 124, 56, 124, 116, 108, 100, 32, 115, 99, 114, 47, 54]⟩, .string ⟨#[45, 124, 45, 124, 115, 99, 106, 47, 50, 124, 115, 99, 106, 47, 51, 124, 115, 99, 106, 47, 52, 124, 115, 99, 106, 47, 53, 124, 115, 99, 106, 47, 54, 124, 115, 99, 106, 47, 55, 124, 115, 99, 106, 47, 56, 124, 115, 99, 106, 47, 57]⟩, .string ⟨#[45, 124, 45, 124, 50, 124, 51, 124, 52, 124, 53, 124, 54, 124, 54, 124, 56, 124, 57]⟩, .string ⟨#[45, 124, 45, 124, 116, 108, 102, 47, 50, 124, 116, 108, 102, 47, 51, 124, 116, 108, 102, 47, 50, 124, 116, 108, 102, 47, 51, 124, 116, 108, 102, 47, 51, 124, 116, 108, 102, 47, 51, 124, 116, 108, 102, 47, 51, 124, 116, 108, 100, 32, 105, 114, 99, 32, 115, 116, 114, 47, 53]⟩, .string ⟨#[45, 124, 45, 124, 50, 124, 51, 124, 52, 124, 53, 124, 54, 124, 55, 124, 56, 124, 115, 101, 114, 47, 57]⟩] : Array Value)[k]? = some (.string (rowE (k : Int))) := by
  have : k = 0 ∨ k = 1 ∨ k = 2 ∨ k = 3 ∨ k = 4 ∨ k = 5 ∨ k = 6 ∨ k = 7 ∨ k = 8 ∨ k = 9 ∨ k = 10 ∨ k = 11 ∨ k = 12 ∨ k = 13 ∨ k = 14 ∨ k = 15 := by omega
  rcases this with rfl | rfl | rfl | rfl | rfl | rfl | rfl | rfl | rfl | rfl | rfl | rfl | rfl | rfl | rfl | rfl <;> rfl
theorem rowE_len (k : Nat) (hk : k < 16) : (rowE (k : Int)).size ≤ 100 := by
  have : k = 0 ∨ k = 1 ∨ k = 2 ∨ k = 3 ∨ k = 4 ∨ k = 5 ∨ k = 6 ∨ k = 7 ∨ k = 8 ∨ k = 9 ∨ k = 10 ∨ k = 11 ∨ k = 12 ∨ k = 13 ∨ k = 14 ∨ k = 15 := by omega
  rcases this with rfl | rfl | rfl | rfl | rfl | rfl | rfl | rfl | rfl | rfl | rfl | rfl | rfl | rfl | rfl | rfl <;> decide

theorem getD_get (b : ByteArray) (i : Nat) (h : i < b.size) : b.data.toList.getD i 0 = b[i] := by
  rw [List.getD_eq_getElem?_getD, List.getElem?_eq_getElem (by rw [Array.length_toList]; exact h)]
  rfl

set_option maxHeartbeats 8000000 in
set_option maxRecDepth 100000 in
theorem entry_any (s e : Nat) (hs : s < 10) (he : e < 16) (rw' : ByteArray) (rt : Int) (h0 : 0 ≤ rt) (hR : entryE (s : Int) (e : Int) = some (rw', rt)) (w : World) :
    Calls Tryz.prog 64 #[.int .i64 (s : Int), .int .i64 (e : Int)] w fun en w' => en = .returned (.tuple #[.string rw', .int .i64 rt]) ∧ Below w.heap.size w w' := by
  have hb0 := b1 w (.cells #[.string ⟨#[50, 124, 105, 114, 99, 32, 115, 99, 114, 47, 54, 124, 45, 124, 45, 124, 45, 124, 45, 124, 45, 124, 45, 124, 45, 124, 45]⟩, .string ⟨#[45, 124, 45, 124, 48, 124, 116, 108, 115, 47, 49, 124, 48, 124, 49, 124, 49, 124, 49, 124, 49, 124, 116, 108, 100, 47, 49]⟩, .string ⟨#[116, 108, 115, 47, 49, 124, 49, 124, 105, 114, 99, 32, 115, 99, 114, 47, 54, 124, 51, 124, 53, 124, 53, 124, 54, 124, 55, 124, 56, 124, 57]⟩, .string ⟨#[48, 124, 116, 108, 102, 47, 48, 124, 50, 124, 50, 124, 52, 124, 52, 124, 105, 114, 99, 32, 115, 116, 114, 47, 52, 124, 105, 114, 99, 32, 115, 116, 114, 47, 52, 124, 105, 114, 99, 32, 115, 116, 114, 47, 52, 124, 116, 108, 100, 32, 105, 114, 99, 32, 115, 116, 114, 47, 52]⟩, .string ⟨#[45, 124, 45, 124, 45, 124, 45, 124, 115, 116, 114, 47, 52, 124, 115, 116, 114, 47, 53, 124, 115, 99, 114, 47, 54, 124, 115, 99, 114, 47, 54, 124, 115, 99, 114, 47, 56, 124, 45]⟩, .string ⟨#[45, 124, 45, 124, 45, 124, 45, 124, 116, 108, 102, 47, 50, 124, 116, 108, 102, 47, 51, 124, 116, 108, 102, 47, 51, 124, 116, 108, 102, 47, 51, 124, 116, 108, 102, 47, 51, 124, 45]⟩, .string ⟨#[45, 124, 45, 124, 115, 116, 97, 47, 50, 124, 105, 114, 99, 32, 115, 99, 114, 32, 115, 99, 97, 47, 56, 124, 52, 124, 53, 124, 115, 99, 97, 47, 56, 124, 115, 99, 97, 32, 116, 108, 117, 47, 57, 124, 115, 99, 97, 47, 56, 124, 116, 108, 100, 32, 115, 99, 114, 32, 115, 99, 97, 47, 56]⟩, .string ⟨#[45, 124, 45, 124, 115, 116, 97, 47, 50, 124, 105, 114, 99, 32, 115, 99, 114, 32, 115, 99, 110, 47, 54, 124, 52, 124, 53, 124, 115, 99, 110, 47, 54, 124, 115, 99, 110, 47, 55, 124, 115, 99, 110, 47, 54, 124, 116, 108, 100, 32, 115, 99, 114, 32, 115, 99, 110, 47, 54]⟩, .string ⟨#[45, 124, 45, 124, 115, 116, 97, 47, 50, 124, 115, 116, 97, 47, 51, 124, 52, 124, 53, 124, 105, 114, 99, 47, 55, 124, 115, 99, 114, 47, 54, 124, 105, 114, 99, 32, 116, 108, 117, 47, 57, 124, 116, 108, 100, 32, 115, 99, 114, 47, 54]⟩, .string ⟨#[45, 124, 45, 124, 115, 116, 97, 47, 50, 124, 115, 116, 97, 47, 51, 124, 52, 124, 53, 124, 105, 114, 99, 32, 115, 99, 114, 47, 54, 124, 115, 99, 114, 47, 54, 124, 105, 114, 99, 32, 115, 99, 114, 47, 56, 124, 116, 108, 100, 32, 115, 99, 114, 47, 54]⟩, .string ⟨#[45, 124, 45, 124, 115, 116, 97, 47, 50, 124, 115, 116, 97, 47, 51, 124, 115, 116, 97, 47, 52, 124, 115, 116, 97, 47, 53, 124, 115, 116, 97, 47, 54, 124, 115, 116, 97, 47, 54, 124, 115, 116, 97, 47, 54, 124, 116, 108, 100, 32, 122, 114, 99, 32, 115, 116, 97, 47, 53]⟩, .string ⟨#[45, 124, 45, 124, 50, 124, 51, 124, 116, 108, 102, 47, 50, 124, 116, 108, 102, 47, 51, 124, 54, 124, 54, 124, 56, 124, 116, 108, 100, 32, 115, 99, 114, 47, 54]⟩, .string ⟨#[45, 124, 45, 124, 115, 99, 106, 47, 50, 124, 115, 99, 106, 47, 51, 124, 115, 99, 106, 47, 52, 124, 115, 99, 106, 47, 53, 124, 115, 99, 106, 47, 54, 124, 115, 99, 106, 47, 55, 124, 115, 99, 106, 47, 56, 124, 115, 99, 106, 47, 57]⟩, .string ⟨#[45, 124, 45, 124, 50, 124, 51, 124, 52, 124, 53, 124, 54, 124, 54, 124, 56, 124, 57]⟩, .string ⟨#[45, 124, 45, 124, 116, 108, 102, 47, 50, 124, 116, 108, 102, 47, 51, 124, 116, 108, 102, 47, 50, 124, 116, 108, 102, 47, 51, 124, 116, 108, 102, 47, 51, 124, 116, 108, 102, 47, 51, 124, 116, 108, 102, 47, 51, 124, 116, 108, 100, 32, 105, 114, 99, 32, 115, 116, 114, 47, 53]⟩, .string ⟨#[45, 124, 45, 124, 50, 124, 51, 124, 52, 124, 53, 124, 54, 124, 55, 124, 56, 124, 115, 101, 114, 47, 57]⟩] 9 (0, 0))
  have hx : (w.alloc (.cells #[.string ⟨#[50, 124, 105, 114, 99, 32, 115, 99, 114, 47, 54, 124, 45, 124, 45, 124, 45, 124, 45, 124, 45, 124, 45, 124, 45, 124, 45]⟩, .string ⟨#[45, 124, 45, 124, 48, 124, 116, 108, 115, 47, 49, 124, 48, 124, 49, 124, 49, 124, 49, 124, 49, 124, 116, 108, 100, 47, 49]⟩, .string ⟨#[116, 108, 115, 47, 49, 124, 49, 124, 105, 114, 99, 32, 115, 99, 114, 47, 54, 124, 51, 124, 53, 124, 53, 124, 54, 124, 55, 124, 56, 124, 57]⟩, .string ⟨#[48, 124, 116, 108, 102, 47, 48, 124, 50, 124, 50, 124, 52, 124, 52, 124, 105, 114, 99, 32, 115, 116, 114, 47, 52, 124, 105, 114, 99, 32, 115, 116, 114, 47, 52, 124, 105, 114, 99, 32, 115, 116, 114, 47, 52, 124, 116, 108, 100, 32, 105, 114, 99, 32, 115, 116, 114, 47, 52]⟩, .string ⟨#[45, 124, 45, 124, 45, 124, 45, 124, 115, 116, 114, 47, 52, 124, 115, 116, 114, 47, 53, 124, 115, 99, 114, 47, 54, 124, 115, 99, 114, 47, 54, 124, 115, 99, 114, 47, 56, 124, 45]⟩, .string ⟨#[45, 124, 45, 124, 45, 124, 45, 124, 116, 108, 102, 47, 50, 124, 116, 108, 102, 47, 51, 124, 116, 108, 102, 47, 51, 124, 116, 108, 102, 47, 51, 124, 116, 108, 102, 47, 51, 124, 45]⟩, .string ⟨#[45, 124, 45, 124, 115, 116, 97, 47, 50, 124, 105, 114, 99, 32, 115, 99, 114, 32, 115, 99, 97, 47, 56, 124, 52, 124, 53, 124, 115, 99, 97, 47, 56, 124, 115, 99, 97, 32, 116, 108, 117, 47, 57, 124, 115, 99, 97, 47, 56, 124, 116, 108, 100, 32, 115, 99, 114, 32, 115, 99, 97, 47, 56]⟩, .string ⟨#[45, 124, 45, 124, 115, 116, 97, 47, 50, 124, 105, 114, 99, 32, 115, 99, 114, 32, 115, 99, 110, 47, 54, 124, 52, 124, 53, 124, 115, 99, 110, 47, 54, 124, 115, 99, 110, 47, 55, 124, 115, 99, 110, 47, 54, 124, 116, 108, 100, 32, 115, 99, 114, 32, 115, 99, 110, 47, 54]⟩, .string ⟨#[45, 124, 45, 124, 115, 116, 97, 47, 50, 124, 115, 116, 97, 47, 51, 124, 52, 124, 53, 124, 105, 114, 99, 47, 55, 124, 115, 99, 114, 47, 54, 124, 105, 114, 99, 32, 116, 108, 117, 47, 57, 124, 116, 108, 100, 32, 115, 99, 114, 47, 54]⟩, .string ⟨#[45, 124, 45, 124, 115, 116, 97, 47, 50, 124, 115, 116, 97, 47, 51, 124, 52, 124, 53, 124, 105, 114, 99, 32, 115, 99, 114, 47, 54, 124, 115, 99, 114, 47, 54, 124, 105, 114, 99, 32, 115, 99, 114, 47, 56, 124, 116, 108, 100, 32, 115, 99, 114, 47, 54]⟩, .string ⟨#[45, 124, 45, 124, 115, 116, 97, 47, 50, 124, 115, 116, 97, 47, 51, 124, 115, 116, 97, 47, 52, 124, 115, 116, 97, 47, 53, 124, 115, 116, 97, 47, 54, 124, 115, 116, 97, 47, 54, 124, 115, 116, 97, 47, 54, 124, 116, 108, 100, 32, 122, 114, 99, 32, 115, 116, 97, 47, 53]⟩, .string ⟨#[45, 124, 45, 124, 50, 124, 51, 124, 116, 108, 102, 47, 50, 124, 116, 108, 102, 47, 51, 124, 54, 124, 54, 124, 56, 124, 116, 108, 100, 32, 115, 99, 114, 47, 54]⟩, .string ⟨#[45, 124, 45, 124, 115, 99, 106, 47, 50, 124, 115, 99, 106, 47, 51, 124, 115, 99, 106, 47, 52, 124, 115, 99, 106, 47, 53, 124, 115, 99, 106, 47, 54, 124, 115, 99, 106, 47, 55, 124, 115, 99, 106, 47, 56, 124, 115, 99, 106, 47, 57]⟩, .string ⟨#[45, 124, 45, 124, 50, 124, 51, 124, 52, 124, 53, 124, 54, 124, 54, 124, 56, 124, 57]⟩, .string ⟨#[45, 124, 45, 124, 116, 108, 102, 47, 50, 124, 116, 108, 102, 47, 51, 124, 116, 108, 102, 47, 50, 124, 116, 108, 102, 47, 51, 124, 116, 108, 102, 47, 51, 124, 116, 108, 102, 47, 51, 124, 116, 108, 102, 47, 51, 124, 116, 108, 100, 32, 105, 114, 99, 32, 115, 116, 114, 47, 53]⟩, .string ⟨#[45, 124, 45, 124, 50, 124, 51, 124, 52, 124, 53, 124, 54, 124, 55, 124, 56, 124, 115, 101, 114, 47, 57]⟩] 9 (0, 0))).heap[w.heap.size]? = some _ := heap_alloc_new w _
  have hc : (w.alloc (.cells #[.string ⟨#[50, 124, 105, 114, 99, 32, 115, 99, 114, 47, 54, 124, 45, 124, 45, 124, 45, 124, 45, 124, 45, 124, 45, 124, 45, 124, 45]⟩, .string ⟨#[45, 124, 45, 124, 48, 124, 116, 108, 115, 47, 49, 124, 48, 124, 49, 124, 49, 124, 49, 124, 49, 124, 116, 108, 100, 47, 49]⟩, .string ⟨#[116, 108, 115, 47, 49, 124, 49, 124, 105, 114, 99, 32, 115, 99, 114, 47, 54, 124, 51, 124, 53, 124, 53, 124, 54, 124, 55, 124, 56, 124, 57]⟩, .string ⟨#[48, 124, 116, 108, 102, 47, 48, 124, 50, 124, 50, 124, 52, 124, 52, 124, 105, 114, 99, 32, 115, 116, 114, 47, 52, 124, 105, 114, 99, 32, 115, 116, 114, 47, 52, 124, 105, 114, 99, 32, 115, 116, 114, 47, 52, 124, 116, 108, 100, 32, 105, 114, 99, 32, 115, 116, 114, 47, 52]⟩, .string ⟨#[45, 124, 45, 124, 45, 124, 45, 124, 115, 116, 114, 47, 52, 124, 115, 116, 114, 47, 53, 124, 115, 99, 114, 47, 54, 124, 115, 99, 114, 47, 54, 124, 115, 99, 114, 47, 56, 124, 45]⟩, .string ⟨#[45, 124, 45, 124, 45, 124, 45, 124, 116, 108, 102, 47, 50, 124, 116, 108, 102, 47, 51, 124, 116, 108, 102, 47, 51, 124, 116, 108, 102, 47, 51, 124, 116, 108, 102, 47, 51, 124, 45]⟩, .string ⟨#[45, 124, 45, 124, 115, 116, 97, 47, 50, 124, 105, 114, 99, 32, 115, 99, 114, 32, 115, 99, 97, 47, 56, 124, 52, 124, 53, 124, 115, 99, 97, 47, 56, 124, 115, 99, 97, 32, 116, 108, 117, 47, 57, 124, 115, 99, 97, 47, 56, 124, 116, 108, 100, 32, 115, 99, 114, 32, 115, 99, 97, 47, 56]⟩, .string ⟨#[45, 124, 45, 124, 115, 116, 97, 47, 50, 124, 105, 114, 99, 32, 115, 99, 114, 32, 115, 99, 110, 47, 54, 124, 52, 124, 53, 124, 115, 99, 110, 47, 54, 124, 115, 99, 110, 47, 55, 124, 115, 99, 110, 47, 54, 124, 116, 108, 100, 32, 115, 99, 114, 32, 115, 99, 110, 47, 54]⟩, .string ⟨#[45, 124, 45, 124, 115, 116, 97, 47, 50, 124, 115, 116, 97, 47, 51, 124, 52, 124, 53, 124, 105, 114, 99, 47, 55, 124, 115, 99, 114, 47, 54, 124, 105, 114, 99, 32, 116, 108, 117, 47, 57, 124, 116, 108, 100, 32, 115, 99, 114, 47, 54]⟩, .string ⟨#[45, 124, 45, 124, 115, 116, 97, 47, 50, 124, 115, 116, 97, 47, 51, 124, 52, 124, 53, 124, 105, 114, 99, 32, 115, 99, 114, 47, 54, 124, 115, 99, 114, 47, 54, 124, 105, 114, 99, 32, 115, 99, 114, 47, 56, 124, 116, 108, 100, 32, 115, 99, 114, 47, 54]⟩, .string ⟨#[45, 124, 45, 124, 115, 116, 97, 47, 50, 124, 115, 116, 97, 47, 51, 124, 115, 116, 97, 47, 52, 124, 115, 116, 97, 47, 53, 124, 115, 116, 97, 47, 54, 124, 115, 116, 97, 47, 54, 124, 115, 116, 97, 47, 54, 124, 116, 108, 100, 32, 122, 114, 99, 32, 115, 116, 97, 47, 53]⟩, .string ⟨#[45, 124, 45, 124, 50, 124, 51, 124, 116, 108, 102, 47, 50, 124, 116, 108, 102, 47, 51, 124, 54, 124, 54, 124, 56, 124, 116, 108, 100, 32, 115, 99, 114, 47, 54]⟩, .string ⟨#[45, 124, 45, 124, 115, 99, 106, 47, 50, 124, 115, 99, 106, 47, 51, 124, 115, 99, 106, 47, 52, 124, 115, 99, 106, 47, 53, 124, 115, 99, 106, 47, 54, 124, 115, 99, 106, 47, 55, 124, 115, 99, 106, 47, 56, 124, 115, 99, 106, 47, 57]⟩, .string ⟨#[45, 124, 45, 124, 50, 124, 51, 124, 52, 124, 53, 124, 54, 124, 54, 124, 56, 124, 57]⟩, .string ⟨#[45, 124, 45, 124, 116, 108, 102, 47, 50, 124, 116, 108, 102, 47, 51, 124, 116, 108, 102, 47, 50, 124, 116, 108, 102, 47, 51, 124, 116, 108, 102, 47, 51, 124, 116, 108, 102, 47, 51, 124, 116, 108, 102, 47, 51, 124, 116, 108, 100, 32, 105, 114, 99, 32, 115, 116, 114, 47, 53]⟩, .string ⟨#[45, 124, 45, 124, 50, 124, 51, 124, 52, 124, 53, 124, 54, 124, 55, 124, 56, 124, 115, 101, 114, 47, 57]⟩] 9 (0, 0))).cell? ⟨w.heap.size, e, none⟩ = some (.string (rowE (e : Int))) := by
    simp only [World.cell?, hx]
    exact rowE_at e he
  have hlen := rowE_len e he
  unfold entryE at hR
  generalize rowE (e : Int) = b at *
  have HB0 := Lib.hid hb0
  have HR := Lib.hid hR
  clear hb0 hx hR
  go_enter Tryz.func64, Tryz.ntmps64
  go_wp2_with fail
  go_loopg [7, 8, 10] (b.size + 2) (fun x aa ff ii wr => ∃ (i a fr : Nat), i ≤ b.size + 1 ∧ a ≤ i ∧ fr ≤ i ∧ x = b.size + 2 - i ∧ ii = .int .i64 (i : Int) ∧ aa = .int .i64 (a : Int) ∧ ff = .int .i64 (fr : Int) ∧ Hid (scanE b (s : Int) (b.size + 2 - i) i (a : Int) fr = some (rw', rt) ∧ Below w.heap.size w wr))
  case atStart => exact ⟨0, 0, 0, by omega, by omega, by omega, by omega, rfl, rfl, rfl, HR.out, HB0.out⟩
  case round =>
    obtain ⟨i, a, fr, hi, ha, hfr, rfl, rfl, rfl, rfl, hK⟩ := hrel
    have HK := Lib.hid hK.out.2
    have hscan := hK.out.1
    rw [show b.size + 2 - i = (b.size + 1 - i) + 1 by omega] at hscan
    have hcase := scan_le hscan
    have HN := Lib.hid (fun (i' : Nat) (h : i' = i + 1) => show b.size + 1 - i = b.size + 2 - i' by omega)
    clear hK hscan HR
    rcases hcase with ⟨h1, h2⟩ | ⟨h1, h2, h3⟩ | ⟨h1, h2, h3⟩ | ⟨h1, h2, h3, h4⟩ | ⟨h1, h2, h3, h4, h5⟩ | ⟨h1, h2, h3, h4, h5⟩
    · cases h2
      go_wp2_with fail
      go_ret2
      exact ⟨rfl, HK.out⟩
    · have hx := getD_get b i h1
      rw [hx] at h2
      have H3 := Lib.hid h3
      clear h3 hx
      have h4 : (b[i].toNat : Int) ≠ 124 := by
        intro h
        exact h2 (UInt8.toNat.inj (by rw [show (124 : UInt8).toNat = 124 from rfl]; omega))
      clear h2
      go_wp2_with fail
      go_roundg (b.size + 2 - (i + 1))
      case measure => omega
      case rel => exact ⟨i + 1, a, fr, by omega, by omega, by omega, rfl, by go_num, rfl, rfl, by rw [← HN.out (i + 1) rfl]; exact H3.out, HK.out⟩
    · have H3 := Lib.hid h3
      clear h3
      have h2' : ¬ ((a : Int) = (s : Int)) := h2
      rcases h1 with h1 | ⟨h1, h5⟩
      · subst h1
        go_wp2_with fail
        go_roundg (b.size + 2 - (b.size + 1))
        case measure => omega
        case rel => exact ⟨b.size + 1, a + 1, b.size + 1, by omega, by omega, by omega, rfl, by go_num, by go_num, by go_num, by rw [← HN.out (b.size + 1) rfl]; exact H3.out, HK.out⟩
      · have hx := getD_get b i h1
        rw [hx] at h5
        have h4 : (b[i].toNat : Int) = 124 := by rw [h5]; rfl
        clear h5 hx
        go_wp2_with fail
        go_roundg (b.size + 2 - (i + 1))
        case measure => omega
        case rel => exact ⟨i + 1, a + 1, i + 1, by omega, by omega, by omega, rfl, by go_num, by go_num, by go_num, by rw [← HN.out (i + 1) rfl]; exact H3.out, HK.out⟩
    · cases h4
      have h2' : (a : Int) = (s : Int) := h2
      have h3' : b.extract fr i = (⟨#[45]⟩ : ByteArray) := h3
      clear h3 h2
      rcases h1 with h1 | ⟨h1, h5⟩
      · subst h1
        go_wp2_with fail
        go_ret2
        exact ⟨rfl, HK.out⟩
      · have hx := getD_get b i h1
        rw [hx] at h5
        have h4 : (b[i].toNat : Int) = 124 := by rw [h5]; rfl
        clear h5 hx
        go_wp2_with fail
        go_ret2
        exact ⟨rfl, HK.out⟩
    · have h2' : (a : Int) = (s : Int) := h2
      have h6 : i ≤ b.size := by omega
      have hw : (b.extract fr i).size = min i b.size - fr := ByteArray.size_extract
      have hws : (b.extract fr i).size ≤ 100 := by omega
      obtain ⟨wd, hwd⟩ : ∃ wd, b.extract fr i = wd := ⟨_, rfl⟩
      rw [hwd] at h3 h4 h5 hws
      have hq : (wd.toList == [45]) = false := by
        cases hh : (wd.toList == [45]) with
        | false => rfl
        | true =>
          have := eq_of_beq hh
          rw [ByteArray.toList_eq] at this
          exact absurd (ByteArray.ext (Array.ext' this)) h3
      have h4' : (1 : Int) < (wd.size : Int) := by omega
      cases h5
      clear h3 h2 hw
      have hw2 : IntKind.i64.wrap ((wd.size : Int) - 2) = ((wd.size - 2 : Nat) : Int) := by rw [IntWalk.i64_in _ (by omega)]; omega
      have hw1 : IntKind.i64.wrap ((wd.size : Int) - 1) = ((wd.size - 1 : Nat) : Int) := by rw [IntWalk.i64_in _ (by omega)]; omega
      have hl2 : ((wd.size - 2 : Nat) : Int) ≤ (wd.size : Int) := by omega
      have hl1 : ((wd.size - 1 : Nat) : Int) < (wd.size : Int) := by omega
      have hl3 : wd.size - 1 < wd.size := by omega
      have hg := getD_get wd (wd.size - 1) (by omega)
      have hx0 : (48 : Int) ≤ ((wd[wd.size - 1]'(by omega)).toNat : Int) := by rw [← hg]; omega
      have hx1 : ((wd[wd.size - 1]'(by omega)).toNat : Int) < 256 := by have := (wd[wd.size - 1]'(by omega)).toNat_lt; omega
      have hwy : IntKind.i64.wrap (((wd[wd.size - 1]'(by omega)).toNat : Int) - 48) = ((wd[wd.size - 1]'(by omega)).toNat : Int) - 48 := IntWalk.i64_in _ (by omega)
      have hwx : IntKind.u8.wrap (((wd[wd.size - 1]'(by omega)).toNat : Int) - 48) = ((wd[wd.size - 1]'(by omega)).toNat : Int) - 48 := by
        unfold IntKind.wrap; simp [IntKind.bits, IntKind.signed]; omega
      rcases h1 with h1 | ⟨h1, h5⟩
      · subst h1
        go_wp2_with fail
        refine wp_region_H (rgH 0 0) (fun _ => True) (by kernel_rfl) ?_
        refine wpAnyH_pure 0 (v := ?vv1) rfl (by kernel_rfl) (by kernel_rfl) (by kernel_rfl) (fun _ _ _ h => h) ?hy1 ?hh1
        case hy1 =>
          refine Or.inl ⟨by rfl, ?_⟩
          intro W _
          go_simp
          try with_reducible rfl
        simp only [Act.put, List.setIfInBounds_toArray, List.set_cons_zero, List.set_cons_succ]
        refine wpAnyH_pure 1 (v := ?vv2) rfl (by kernel_rfl) (by kernel_rfl) (by kernel_rfl) (fun _ _ _ h => h) ?hy2 ?hh2
        case hy2 =>
          refine Or.inl ⟨by rfl, ?_⟩
          intro W _
          go_simp
          try with_reducible rfl
        simp only [Act.put, List.setIfInBounds_toArray, List.set_cons_zero, List.set_cons_succ]
        refine wpAnyH_pure 2 (v := ?vv3) rfl (by kernel_rfl) (by kernel_rfl) (by kernel_rfl) (fun _ _ _ h => h) ?hy3 ?hh3
        case hy3 =>
          refine Or.inl ⟨by rfl, ?_⟩
          intro W _
          go_simp
          try with_reducible rfl
        simp only [Act.put, List.setIfInBounds_toArray, List.set_cons_zero, List.set_cons_succ]
        refine wpAnyH_pure 3 (v := ?vv4) rfl (by kernel_rfl) (by kernel_rfl) (by kernel_rfl) (fun _ _ _ h => h) ?hy4 ?hh4
        case hy4 =>
          refine Or.inl ⟨by rfl, ?_⟩
          intro W _
          go_simp
          try with_reducible rfl
        simp only [Act.put, List.setIfInBounds_toArray, List.set_cons_zero, List.set_cons_succ]
        refine wpAnyH_pure 4 (v := ?vv5) rfl (by kernel_rfl) (by kernel_rfl) (by kernel_rfl) (fun _ _ _ h => h) ?hy5 ?hh5
        case hy5 =>
          refine Or.inl ⟨by rfl, ?_⟩
          intro W _
          go_simp
          try with_reducible rfl
        simp only [Act.put, List.setIfInBounds_toArray, List.set_cons_zero, List.set_cons_succ]
        refine wpAnyH_pure 5 (v := ?vv6) rfl (by kernel_rfl) (by kernel_rfl) (by kernel_rfl) (fun _ _ _ h => h) ?hy6 ?hh6
        case hy6 =>
          refine Or.inl ⟨by rfl, ?_⟩
          intro W _
          go_simp
          try with_reducible rfl
        simp only [Act.put, List.setIfInBounds_toArray, List.set_cons_zero, List.set_cons_succ]
        refine wpAnyH_pure 6 (v := ?vv7) rfl (by kernel_rfl) (by kernel_rfl) (by kernel_rfl) (fun _ _ _ h => h) ?hy7 ?hh7
        case hy7 =>
          refine Or.inl ⟨by rfl, ?_⟩
          intro W _
          go_simp
          try with_reducible rfl
        simp only [Act.put, List.setIfInBounds_toArray, List.set_cons_zero, List.set_cons_succ]
        refine wpAnyH_pure 7 (v := ?vv8) rfl (by kernel_rfl) (by kernel_rfl) (by kernel_rfl) (fun _ _ _ h => h) ?hy8 ?hh8
        case hy8 =>
          refine Or.inl ⟨by rfl, ?_⟩
          intro W _
          go_simp
          try with_reducible rfl
        simp only [Act.put, List.setIfInBounds_toArray, List.set_cons_zero, List.set_cons_succ]
        refine wpAnyH_pure 8 (v := ?vv9) rfl (by kernel_rfl) (by kernel_rfl) (by kernel_rfl) (fun _ _ _ h => h) ?hy9 ?hh9
        case hy9 =>
          refine Or.inl ⟨by rfl, ?_⟩
          intro W _
          go_simp
          try with_reducible rfl
        simp only [Act.put, List.setIfInBounds_toArray, List.set_cons_zero, List.set_cons_succ]
        refine wpAnyH_pure 9 (v := ?vv10) rfl (by kernel_rfl) (by kernel_rfl) (by kernel_rfl) (fun _ _ _ h => h) ?hy10 ?hh10
        case hy10 =>
          refine Or.inl ⟨by rfl, ?_⟩
          intro W _
          go_simp
          try with_reducible rfl
        simp only [Act.put, List.setIfInBounds_toArray, List.set_cons_zero, List.set_cons_succ]
        refine wpAnyH_pure 10 (v := ?vv11) rfl (by kernel_rfl) (by kernel_rfl) (by kernel_rfl) (fun _ _ _ h => h) ?hy11 ?hh11
        case hy11 =>
          refine Or.inl ⟨by rfl, ?_⟩
          intro W _
          go_simp
          try with_reducible rfl
        simp only [Act.put, List.setIfInBounds_toArray, List.set_cons_zero, List.set_cons_succ]
        refine wpAnyH_pure 11 (v := ?vv12) rfl (by kernel_rfl) (by kernel_rfl) (by kernel_rfl) (fun _ _ _ h => h) ?hy12 ?hh12
        case hy12 =>
          refine Or.inl ⟨by rfl, ?_⟩
          intro W _
          go_simp
          try with_reducible rfl
        simp only [Act.put, List.setIfInBounds_toArray, List.set_cons_zero, List.set_cons_succ]
        refine wpAnyH_end 12 (fun j hj => rgH_end _ _ j (by omega)) (by rfl) (by kernel_rfl) ?_
        simp only [List.drop_succ_cons, List.drop_zero]
        go_wp2_with fail
        go_ret2
        exact ⟨by rw [hg]; rfl, HK.out.drew⟩
      · have hx := getD_get b i h1
        rw [hx] at h5
        have h7 : (b[i].toNat : Int) = 124 := by rw [h5]; rfl
        clear h5 hx
        go_wp2_with fail
        refine wp_region_H (rgH 0 0) (fun _ => True) (by kernel_rfl) ?_
        refine wpAnyH_pure 0 (v := ?vv13) rfl (by kernel_rfl) (by kernel_rfl) (by kernel_rfl) (fun _ _ _ h => h) ?hy13 ?hh13
        case hy13 =>
          refine Or.inl ⟨by rfl, ?_⟩
          intro W _
          go_simp
          try with_reducible rfl
        simp only [Act.put, List.setIfInBounds_toArray, List.set_cons_zero, List.set_cons_succ]
        refine wpAnyH_pure 1 (v := ?vv14) rfl (by kernel_rfl) (by kernel_rfl) (by kernel_rfl) (fun _ _ _ h => h) ?hy14 ?hh14
        case hy14 =>
          refine Or.inl ⟨by rfl, ?_⟩
          intro W _
          go_simp
          try with_reducible rfl
        simp only [Act.put, List.setIfInBounds_toArray, List.set_cons_zero, List.set_cons_succ]
        refine wpAnyH_pure 2 (v := ?vv15) rfl (by kernel_rfl) (by kernel_rfl) (by kernel_rfl) (fun _ _ _ h => h) ?hy15 ?hh15
        case hy15 =>
          refine Or.inl ⟨by rfl, ?_⟩
          intro W _
          go_simp
          try with_reducible rfl
        simp only [Act.put, List.setIfInBounds_toArray, List.set_cons_zero, List.set_cons_succ]
        refine wpAnyH_pure 3 (v := ?vv16) rfl (by kernel_rfl) (by kernel_rfl) (by kernel_rfl) (fun _ _ _ h => h) ?hy16 ?hh16
        case hy16 =>
          refine Or.inl ⟨by rfl, ?_⟩
          intro W _
          go_simp
          try with_reducible rfl
        simp only [Act.put, List.setIfInBounds_toArray, List.set_cons_zero, List.set_cons_succ]
        refine wpAnyH_pure 4 (v := ?vv17) rfl (by kernel_rfl) (by kernel_rfl) (by kernel_rfl) (fun _ _ _ h => h) ?hy17 ?hh17
        case hy17 =>
          refine Or.inl ⟨by rfl, ?_⟩
          intro W _
          go_simp
          try with_reducible rfl
        simp only [Act.put, List.setIfInBounds_toArray, List.set_cons_zero, List.set_cons_succ]
        refine wpAnyH_pure 5 (v := ?vv18) rfl (by kernel_rfl) (by kernel_rfl) (by kernel_rfl) (fun _ _ _ h => h) ?hy18 ?hh18
        case hy18 =>
          refine Or.inl ⟨by rfl, ?_⟩
          intro W _
          go_simp
          try with_reducible rfl
        simp only [Act.put, List.setIfInBounds_toArray, List.set_cons_zero, List.set_cons_succ]
        refine wpAnyH_pure 6 (v := ?vv19) rfl (by kernel_rfl) (by kernel_rfl) (by kernel_rfl) (fun _ _ _ h => h) ?hy19 ?hh19
        case hy19 =>
          refine Or.inl ⟨by rfl, ?_⟩
          intro W _
          go_simp
          try with_reducible rfl
        simp only [Act.put, List.setIfInBounds_toArray, List.set_cons_zero, List.set_cons_succ]
        refine wpAnyH_pure 7 (v := ?vv20) rfl (by kernel_rfl) (by kernel_rfl) (by kernel_rfl) (fun _ _ _ h => h) ?hy20 ?hh20
        case hy20 =>
          refine Or.inl ⟨by rfl, ?_⟩
          intro W _
          go_simp
          try with_reducible rfl
        simp only [Act.put, List.setIfInBounds_toArray, List.set_cons_zero, List.set_cons_succ]
        refine wpAnyH_pure 8 (v := ?vv21) rfl (by kernel_rfl) (by kernel_rfl) (by kernel_rfl) (fun _ _ _ h => h) ?hy21 ?hh21
        case hy21 =>
          refine Or.inl ⟨by rfl, ?_⟩
          intro W _
          go_simp
          try with_reducible rfl
        simp only [Act.put, List.setIfInBounds_toArray, List.set_cons_zero, List.set_cons_succ]
        refine wpAnyH_pure 9 (v := ?vv22) rfl (by kernel_rfl) (by kernel_rfl) (by kernel_rfl) (fun _ _ _ h => h) ?hy22 ?hh22
        case hy22 =>
          refine Or.inl ⟨by rfl, ?_⟩
          intro W _
          go_simp
          try with_reducible rfl
        simp only [Act.put, List.setIfInBounds_toArray, List.set_cons_zero, List.set_cons_succ]
        refine wpAnyH_pure 10 (v := ?vv23) rfl (by kernel_rfl) (by kernel_rfl) (by kernel_rfl) (fun _ _ _ h => h) ?hy23 ?hh23
        case hy23 =>
          refine Or.inl ⟨by rfl, ?_⟩
          intro W _
          go_simp
          try with_reducible rfl
        simp only [Act.put, List.setIfInBounds_toArray, List.set_cons_zero, List.set_cons_succ]
        refine wpAnyH_pure 11 (v := ?vv24) rfl (by kernel_rfl) (by kernel_rfl) (by kernel_rfl) (fun _ _ _ h => h) ?hy24 ?hh24
        case hy24 =>
          refine Or.inl ⟨by rfl, ?_⟩
          intro W _
          go_simp
          try with_reducible rfl
        simp only [Act.put, List.setIfInBounds_toArray, List.set_cons_zero, List.set_cons_succ]
        refine wpAnyH_end 12 (fun j hj => rgH_end _ _ j (by omega)) (by rfl) (by kernel_rfl) ?_
        simp only [List.drop_succ_cons, List.drop_zero]
        go_wp2_with fail
        go_ret2
        exact ⟨by rw [hg]; rfl, HK.out.drew⟩
    · have h2' : (a : Int) = (s : Int) := h2
      have h6 : i ≤ b.size := by omega
      obtain ⟨wd, hwd⟩ : ∃ wd, b.extract fr i = wd := ⟨_, rfl⟩
      rw [hwd] at h3 h4 h5
      have hq : (wd.toList == [45]) = false := by
        cases hh : (wd.toList == [45]) with
        | false => rfl
        | true =>
          have := eq_of_beq hh
          rw [ByteArray.toList_eq] at this
          exact absurd (ByteArray.ext (Array.ext' this)) h3
      have hl3 : 0 < wd.size := by omega
      cases h5
      clear h3 h2
      have hg := getD_get wd 0 hl3
      have hx0 : (48 : Int) ≤ ((wd[0]'hl3).toNat : Int) := by rw [← hg]; omega
      have hx1 : ((wd[0]'hl3).toNat : Int) < 256 := by have := (wd[0]'hl3).toNat_lt; omega
      have hwy : IntKind.i64.wrap (((wd[0]'hl3).toNat : Int) - 48) = ((wd[0]'hl3).toNat : Int) - 48 := IntWalk.i64_in _ (by omega)
      have hwx : IntKind.u8.wrap (((wd[0]'hl3).toNat : Int) - 48) = ((wd[0]'hl3).toNat : Int) - 48 := by
        unfold IntKind.wrap; simp [IntKind.bits, IntKind.signed]; omega
      rcases h1 with h1 | ⟨h1, h5⟩
      · subst h1
        go_wp2_with fail
        refine wp_region_H (rgH 0 0) (fun _ => True) (by kernel_rfl) ?_
        refine wpAnyH_pure 0 (v := ?vv25) rfl (by kernel_rfl) (by kernel_rfl) (by kernel_rfl) (fun _ _ _ h => h) ?hy25 ?hh25
        case hy25 =>
          refine Or.inl ⟨by rfl, ?_⟩
          intro W _
          go_simp
          try with_reducible rfl
        simp only [Act.put, List.setIfInBounds_toArray, List.set_cons_zero, List.set_cons_succ]
        refine wpAnyH_pure 1 (v := ?vv26) rfl (by kernel_rfl) (by kernel_rfl) (by kernel_rfl) (fun _ _ _ h => h) ?hy26 ?hh26
        case hy26 =>
          refine Or.inl ⟨by rfl, ?_⟩
          intro W _
          go_simp
          try with_reducible rfl
        simp only [Act.put, List.setIfInBounds_toArray, List.set_cons_zero, List.set_cons_succ]
        refine wpAnyH_pure 2 (v := ?vv27) rfl (by kernel_rfl) (by kernel_rfl) (by kernel_rfl) (fun _ _ _ h => h) ?hy27 ?hh27
        case hy27 =>
          refine Or.inl ⟨by rfl, ?_⟩
          intro W _
          go_simp
          try with_reducible rfl
        simp only [Act.put, List.setIfInBounds_toArray, List.set_cons_zero, List.set_cons_succ]
        refine wpAnyH_pure 3 (v := ?vv28) rfl (by kernel_rfl) (by kernel_rfl) (by kernel_rfl) (fun _ _ _ h => h) ?hy28 ?hh28
        case hy28 =>
          refine Or.inl ⟨by rfl, ?_⟩
          intro W _
          go_simp
          try with_reducible rfl
        simp only [Act.put, List.setIfInBounds_toArray, List.set_cons_zero, List.set_cons_succ]
        refine wpAnyH_pure 4 (v := ?vv29) rfl (by kernel_rfl) (by kernel_rfl) (by kernel_rfl) (fun _ _ _ h => h) ?hy29 ?hh29
        case hy29 =>
          refine Or.inl ⟨by rfl, ?_⟩
          intro W _
          go_simp
          try with_reducible rfl
        simp only [Act.put, List.setIfInBounds_toArray, List.set_cons_zero, List.set_cons_succ]
        refine wpAnyH_end 5 (fun j hj => rgH_end _ _ j (by omega)) (by rfl) (by kernel_rfl) ?_
        simp only [List.drop_succ_cons, List.drop_zero]
        go_wp2_with fail
        go_ret2
        exact ⟨by rw [hg]; rfl, HK.out.drew⟩
      · have hx := getD_get b i h1
        rw [hx] at h5
        have h7 : (b[i].toNat : Int) = 124 := by rw [h5]; rfl
        clear h5 hx
        go_wp2_with fail
        refine wp_region_H (rgH 0 0) (fun _ => True) (by kernel_rfl) ?_
        refine wpAnyH_pure 0 (v := ?vv30) rfl (by kernel_rfl) (by kernel_rfl) (by kernel_rfl) (fun _ _ _ h => h) ?hy30 ?hh30
        case hy30 =>
          refine Or.inl ⟨by rfl, ?_⟩
          intro W _
          go_simp
          try with_reducible rfl
        simp only [Act.put, List.setIfInBounds_toArray, List.set_cons_zero, List.set_cons_succ]
        refine wpAnyH_pure 1 (v := ?vv31) rfl (by kernel_rfl) (by kernel_rfl) (by kernel_rfl) (fun _ _ _ h => h) ?hy31 ?hh31
        case hy31 =>
          refine Or.inl ⟨by rfl, ?_⟩
          intro W _
          go_simp
          try with_reducible rfl
        simp only [Act.put, List.setIfInBounds_toArray, List.set_cons_zero, List.set_cons_succ]
        refine wpAnyH_pure 2 (v := ?vv32) rfl (by kernel_rfl) (by kernel_rfl) (by kernel_rfl) (fun _ _ _ h => h) ?hy32 ?hh32
        case hy32 =>
          refine Or.inl ⟨by rfl, ?_⟩
          intro W _
          go_simp
          try with_reducible rfl
        simp only [Act.put, List.setIfInBounds_toArray, List.set_cons_zero, List.set_cons_succ]
        refine wpAnyH_pure 3 (v := ?vv33) rfl (by kernel_rfl) (by kernel_rfl) (by kernel_rfl) (fun _ _ _ h => h) ?hy33 ?hh33
        case hy33 =>
          refine Or.inl ⟨by rfl, ?_⟩
          intro W _
          go_simp
          try with_reducible rfl
        simp only [Act.put, List.setIfInBounds_toArray, List.set_cons_zero, List.set_cons_succ]
        refine wpAnyH_pure 4 (v := ?vv34) rfl (by kernel_rfl) (by kernel_rfl) (by kernel_rfl) (fun _ _ _ h => h) ?hy34 ?hh34
        case hy34 =>
          refine Or.inl ⟨by rfl, ?_⟩
          intro W _
          go_simp
          try with_reducible rfl
        simp only [Act.put, List.setIfInBounds_toArray, List.set_cons_zero, List.set_cons_succ]
        refine wpAnyH_end 5 (fun j hj => rgH_end _ _ j (by omega)) (by rfl) (by kernel_rfl) ?_
        simp only [List.drop_succ_cons, List.drop_zero]
        go_wp2_with fail
        go_ret2
        exact ⟨by rw [hg]; rfl, HK.out.drew⟩
end Go.Proofs.YtignponfoheaeaaGreat
