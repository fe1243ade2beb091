import Derived.Test.YtkfcjcbjefpliaaN8
namespace Go.Proofs.Ytkfcjcbjefpliaa
open Go.RowKit Go.Tg Go.Maps Go.Sort

def st0 : NetS := ⟨[], fun _ _ => none, fun _ _ => false⟩
set_option maxHeartbeats 400000 in
theorem new_any (w : World) : Calls Try.prog 10 #[] w fun e w' => e = .returned (.pointer (some ⟨w.heap.size, 0, none⟩)) ∧
    NetV w' (fun k => k = w.heap.size) w.heap.size st0 (fun _ _ => 0) (.slice none 0 0) (.map none) (.map none) ∧ Keep (fun _ => False) w w' := by
  go_enter Try.func10, Try.ntmps10
  go_wp2_with fail
  go_ret
  refine ⟨rfl, ?_, (Keep.refl _ _).alloc _⟩
  exact ⟨get1 _ _, rfl, ⟨rfl, Or.inl ⟨rfl, rfl⟩⟩, (fun k hk => by cases hk), Or.inl ⟨rfl, fun _ _ => rfl⟩, Or.inl ⟨rfl, fun _ _ => rfl⟩, (fun m hm => by cases hm)⟩

theorem eql24a (a : Addr) (w : World) : (binOp .eql 24 (.pointer (some a)) (.pointer none)).run Try.prog w = .ok (.bool false) w := by kernel_rfl

theorem row_slice_len {w : World} {v : Value} {n : Nat} {xs : List Value} (h : w.ownsRow 0 63 4 v n xs) : ∃ sa sc, v = .slice sa n sc := by
  obtain ⟨_, ⟨h, rfl⟩ | ⟨g, cp, cur, hv, _⟩⟩ := h
  · exact ⟨_, _, h⟩
  · exact ⟨_, _, hv⟩

set_option maxHeartbeats 400000 in
theorem len_any {w : World} {S : Nat → Prop} {b : Nat} {st : NetS} {loc : Int → Int → Nat} {lv av cv : Value} (h : NetV w S b st loc lv av cv) :
    Calls Try.prog 13 #[.pointer (some ⟨b, 0, none⟩)] w fun e w' => e = .returned (.int .i64 st.l.length) ∧ w' = w := by
  obtain ⟨sa, sc, rfl⟩ := row_slice_len h.row
  have c0 : w.cell? ⟨b, 0, none⟩ = some (.slice sa st.l.length sc) := by simp [World.cell?, h.blk]
  have heq := eql24a
  clear h
  go_enter Try.func13, Try.ntmps13
  go_wp2_with fail
  go_ret
  exact ⟨rfl, rfl⟩

set_option maxHeartbeats 800000 in
theorem wrong_any {w : World} {S : Nat → Prop} {b : Nat} {st : NetS} {loc : Int → Int → Nat} {lv av cv : Value} (h : NetV w S b st loc lv av cv) (i : Int) (hlen : st.l.length ≤ 1000000) :
    Calls Try.prog 26 #[.pointer (some ⟨b, 0, none⟩), .int .i64 i] w fun e w' => e = .returned (.int .i64 (if 0 ≤ i ∧ i < st.l.length then 0 else 3)) ∧ w' = w := by
  obtain ⟨sa, sc, rfl⟩ := row_slice_len h.row
  have c0 : w.cell? ⟨b, 0, none⟩ = some (.slice sa st.l.length sc) := by simp [World.cell?, h.blk]
  have heq := eql24a
  clear h
  by_cases h0 : i < 0
  · have hd : decide (i < 0) = true := by simpa using h0
    rw [if_neg (by omega)]
    go_enter Try.func26, Try.ntmps26
    go_wp2_with fail
    go_ret
    exact ⟨rfl, rfl⟩
  · have hd : decide (i < 0) = false := by simpa using h0
    by_cases h1 : i < st.l.length
    · have he : decide ((st.l.length : Int) ≤ i) = false := by simpa using h1
      rw [if_pos ⟨by omega, h1⟩]
      go_enter Try.func26, Try.ntmps26
      go_wp2_with fail
      go_ret
      exact ⟨rfl, rfl⟩
    · have he : decide ((st.l.length : Int) ≤ i) = true := by simp; omega
      rw [if_neg (by omega)]
      go_enter Try.func26, Try.ntmps26
      go_wp2_with fail
      go_ret
      exact ⟨rfl, rfl⟩
end Go.Proofs.Ytkfcjcbjefpliaa
