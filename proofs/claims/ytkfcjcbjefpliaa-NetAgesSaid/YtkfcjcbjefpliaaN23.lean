import Derived.Test.YtkfcjcbjefpliaaN22
namespace Go.Proofs.Ytkfcjcbjefpliaa
open Go.RowKit Go.Tg Go.Maps Go.Sort

theorem i64_one : I64 1 := by unfold I64; rfl
theorem i64_two : I64 2 := by unfold I64; rfl
theorem i64_three : I64 3 := by unfold I64; rfl

/-- Nothing is cut, there is room: what a Send does. -/
theorem sendS_room {st : NetS} {f t : Int} {s l : Int} (h : (st.at' f t).getD (0, 0) = (s, l)) (hc : st.cut f t = false) (hl : st.l.length < 600) (d : ByteArray) :
    sendS st f t d = { st with l := st.l ++ [Gram.mk f t d (s + 1)], at' := setAt st.at' f t (s + 1, l) } := by
  unfold sendS
  rw [if_neg (by rw [hc]; simp; omega), h]
theorem sendS_cut {st : NetS} {f t : Int} {s l : Int} (h : (st.at' f t).getD (0, 0) = (s, l)) (hc : st.cut f t = true) (d : ByteArray) :
    sendS st f t d = { st with at' := setAt st.at' f t (s + 1, l + 1) } := by
  unfold sendS
  rw [if_pos (Or.inl hc), h]
theorem setAt_same (a : Int → Int → Option (Int × Int)) (p q : Int) (v : Int × Int) : (setAt a p q v p q).getD (0, 0) = v := by simp [setAt]

/-- alive's net behind its two sends, and behind its copy. -/
def alA : NetS := ⟨[Gram.mk 1 2 ⟨#[97]⟩ 1], setAt st0.at' 1 2 (1, 0), st0.cut⟩
def alB : NetS := ⟨[Gram.mk 1 2 ⟨#[97]⟩ 1, Gram.mk 1 2 ⟨#[98]⟩ 2], setAt alA.at' 1 2 (2, 0), st0.cut⟩
def alC : NetS := { alB with l := [Gram.mk 1 2 ⟨#[97]⟩ 1, Gram.mk 1 2 ⟨#[97]⟩ 1, Gram.mk 1 2 ⟨#[98]⟩ 2] }
def alD : NetS := { alB with l := [Gram.mk 1 2 ⟨#[97]⟩ 1, Gram.mk 1 2 ⟨#[97]⟩ 1] }
theorem alA_at : (alA.at' 1 2).getD (0, 0) = (1, 0) := by simp [alA, setAt]
theorem alD_at : (alD.at' 1 2).getD (0, 0) = (2, 0) := by simp [alD, alB, setAt]
theorem sendA : sendS st0 1 2 ⟨#[97]⟩ = alA := by rw [sendS_room (s := 0) (l := 0) rfl rfl (by decide)]; rfl
theorem sendB : sendS alA 1 2 ⟨#[98]⟩ = alB := by rw [sendS_room (s := 1) (l := 0) alA_at rfl (by decide)]; rfl

set_option maxHeartbeats 2000000 in
set_option maxRecDepth 100000 in
theorem alive_any (w : World) :
    Calls Try.prog 9 #[] w fun e w' => e = .returned (.bool true) ∧ Keep (fun _ => False) w w' := by
  have H0 := Lib.hid (NetI.new (W := w) (Keep.refl _ w) (fun _ => False) (fun _ h => h.elim))
  have heq := eql24a
  go_enter Try.func9, Try.ntmps9
  go_wp2_with fail
  refine H0.out.mono ?_
  rintro e w1 ⟨rfl, h1, hk1⟩
  have HB := Lib.hid (rfl : w.heap.size = w.heap.size)
  generalize hbe : w.heap.size = b at h1 ⊢
  have HBE := Lib.hid hbe
  have H1 := Lib.hid h1
  clear hbe hk1 h1 HB
  go_wp2_with fail
  refine (H1.out.send 1 2 ⟨#[97]⟩ i64_one i64_two (by decide) 0 0 rfl (by omega) (by omega) (by omega) (by omega) (by intro g hg; cases hg)).mono ?_
  rintro e w2 ⟨rfl, h2, -⟩
  rw [sendA] at h2
  have H2 := Lib.hid h2
  clear h2
  go_wp2_with fail
  refine (H2.out.send 1 2 ⟨#[98]⟩ i64_one i64_two (by decide) 1 0 alA_at (by omega) (by omega) (by omega) (by omega) (by intro g hg; simp [alA] at hg; subst hg; simp)).mono ?_
  rintro e w3 ⟨rfl, h3, -⟩
  rw [sendB] at h3
  have H3 := Lib.hid h3
  clear h3
  go_wp2_with fail
  refine (H3.out.twice_two _ _ rfl).mono ?_
  rintro e w4 ⟨rfl, h4, -⟩
  have H4 : Hid (NetI w (fun _ => False) b alC w4) := Lib.hid h4
  clear h4
  go_wp2_with fail
  refine (H4.out.deliver_ok 2 (by decide) (by decide)).mono ?_
  rintro e w5 ⟨rfl, h5, -⟩
  have H5 : Hid (NetI w (fun _ => False) b alD w5) := Lib.hid h5
  clear h5
  simp only [alC, List.getElem_cons_succ, List.getElem_cons_zero]
  have H6 := Lib.hid (H5.out.still (w' := w5.alloc (.cells #[.int .i64 1, .int .i64 2, .string ⟨#[98]⟩] 29)) ((Keep.refl _ _).alloc _)).1
  go_wp2_with fail
  refine H6.out.len.mono ?_
  rintro e w6 ⟨rfl, rfl⟩
  simp only [alD, List.length_cons, List.length_nil]
  go_wp2_with fail
  refine (H6.out.sent 1 2 i64_one i64_two).mono ?_
  rintro e w7 ⟨rfl, h7, -⟩
  rw [alD_at]
  have H7 := Lib.hid h7.keep
  clear h7
  go_wp2_with fail
  go_ret
  exact ⟨rfl, H7.out⟩
end Go.Proofs.Ytkfcjcbjefpliaa
