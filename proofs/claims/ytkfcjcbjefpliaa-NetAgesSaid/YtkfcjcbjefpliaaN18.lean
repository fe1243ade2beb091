import Derived.Test.YtkfcjcbjefpliaaN17
import Derived.Test.YtkfcjcbjefpliaaN9
namespace Go.Proofs.Ytkfcjcbjefpliaa
open Go.RowKit Go.Tg Go.Maps Go.Sort

set_option maxHeartbeats 1000000 in
theorem drop_bad {w : World} {S : Nat → Prop} {b : Nat} {st : NetS} {loc : Int → Int → Nat} {lv av cv : Value} (h : NetV w S b st loc lv av cv) (i : Int) (hlen : st.l.length ≤ 1000000) (hi : ¬ (0 ≤ i ∧ i < st.l.length)) :
    Calls Try.prog 14 #[.pointer (some ⟨b, 0, none⟩), .int .i64 i] w fun e w' => e = .returned (.int .i64 3) ∧ Keep (fun _ => False) w w' := by
  have hD := deliver_bad h i hlen hi
  clear h
  go_enter Try.func14, Try.ntmps14
  go_wp2_with fail
  refine hD.mono ?_
  rintro e w1 ⟨rfl, hk1⟩
  have HK := Lib.hid hk1
  clear hk1 hD
  go_wp2_with fail
  go_ret
  exact ⟨rfl, HK.out.alloc _⟩

/-- What a Drop leaves. -/
def dropS (st : NetS) (k : Nat) (f t : Int) : NetS := { st with l := st.l.eraseIdx k, at' := lostAt st.at' f t }

set_option maxHeartbeats 2000000 in
set_option maxRecDepth 100000 in
theorem drop_ok {w : World} {S : Nat → Prop} {b : Nat} {st : NetS} {loc : Int → Int → Nat} {lv av cv : Value} (h : NetV w S b st loc lv av cv) (k : Nat) (hk : k < st.l.length) (hlen : st.l.length ≤ 1000000)
    (hf : I64 st.l[k].f) (ht : I64 st.l[k].t) (hl0 : 0 ≤ ((st.at' st.l[k].f st.l[k].t).getD (0, 0)).2) (hl : ((st.at' st.l[k].f st.l[k].t).getD (0, 0)).2 < 9223372036854775807) :
    Calls Try.prog 14 #[.pointer (some ⟨b, 0, none⟩), .int .i64 k] w fun e w' => ∃ loc' lv' av', e = .returned (.int .i64 0) ∧ NetV w' (Grow S w) b (dropS st k st.l[k].f st.l[k].t) loc' lv' av' cv ∧ Keep S w w' := by
  have hD := deliver_ok h k hk hlen
  have HF := Lib.hid (And.intro hf (And.intro ht (And.intro hl0 hl)))
  clear h hf ht hl0 hl
  generalize st.l[k].f = f at *
  generalize st.l[k].t = t at *
  generalize st.l[k].d = d at *
  clear hk hlen
  go_enter Try.func14, Try.ntmps14
  go_wp2_with fail
  refine hD.mono ?_
  rintro e w1 ⟨lv1, rfl, h1, hk1⟩
  have H1 := Lib.hid (h1.keep (T := fun _ => False) ((Keep.refl _ _).alloc (.cells #[.int .i64 f, .int .i64 t, .string d] 29)) (by intro k _ _ hk; exact hk))
  have HK1 : Hid (Keep S w (w1.alloc (.cells #[.int .i64 f, .int .i64 t, .string d] 29))) := Lib.hid (hk1.alloc _)
  clear h1 hk1 hD
  go_wp2_with fail
  refine (lose_any H1.out f t d HF.out.1 HF.out.2.1 HF.out.2.2.1 HF.out.2.2.2).mono ?_
  rintro e w2 ⟨loc2, av2, rfl, h2, hk2⟩
  have H2 := Lib.hid h2
  have HK2 := Lib.hid (HK1.out.trans (hk2.mono (fun k _ h => h)))
  have HS := Lib.hid HK1.out.size
  clear h2 hk2
  go_wp2_with fail
  go_ret
  exact ⟨loc2, lv1, av2, rfl, H2.out.mono (fun k hk => hk.imp id (fun h => Nat.le_trans HS.out h)), HK2.out⟩
end Go.Proofs.Ytkfcjcbjefpliaa
