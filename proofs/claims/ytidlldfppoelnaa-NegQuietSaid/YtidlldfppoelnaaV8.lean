import Derived.Test.YtidlldfppoelnaaV7
import Derived.Laws.EntriesVeiled
namespace Go.Proofs.Ytidlldfppoelnaa
open Go.RowKit Go.Tg Go.Maps

set_option maxHeartbeats 4000000 in
set_option maxRecDepth 100000 in
theorem judge_any (rs : List Rl) (rv : Value) (okr : Nat → Prop) (l : List Opt) (lv : Value) (ok : Nat → Prop) (w : World) (hr : Rls w okr rv rs) (hrm : rs.length ≤ 1000000) (hl : Opts w ok lv l) (hmax : l.length ≤ 1000000)
    (hwf : ∀ o ∈ l, I64 o.t) (hv : ∀ o ∈ l, o.v.size ≤ 100000) :
    Calls Try.prog 18 #[rv, lv] w fun e w' => ∃ v, e = .returned (.tuple #[.int .i64 (judgeS rs l).1, v]) ∧ ORow w' w.heap.size v (judgeS rs l).2 ∧ Below w.heap.size w w' := by
  have hsz := alloc2 w (.cells #[rv] 28 (0, 0)) (.cells #[.func (.func 39) #[] #[.pointer (some ⟨w.heap.size, 0, none⟩)]] 83 (0, 0))
  have hb := ((Below.refl w.heap.size w).alloc (Nat.le_refl _) (.cells #[rv] 28 (0, 0))).alloc (by rw [alloc1]; omega) (.cells #[.func (.func 39) #[] #[.pointer (some ⟨w.heap.size, 0, none⟩)]] 83 (0, 0))
  have h0 := at20 w (.cells #[rv] 28 (0, 0)) (.cells #[.func (.func 39) #[] #[.pointer (some ⟨w.heap.size, 0, none⟩)]] 83 (0, 0))
  have h1 := at21 w (.cells #[rv] 28 (0, 0)) (.cells #[.func (.func 39) #[] #[.pointer (some ⟨w.heap.size, 0, none⟩)]] 83 (0, 0))
  have HJ := Lib.hid (answer_any l lv ok _ (hl.below hb) hmax hwf 42 43 44 #[.pointer (some ⟨w.heap.size, 0, none⟩)] #[.pointer (some ⟨w.heap.size + 1, 0, none⟩)] #[.pointer (some ⟨w.heap.size + 1, 0, none⟩)]
    (fun k => (findR rs k).isSome) (fun o => fitsR (ruleOf rs o.t) o.v) (fun k => (ruleOf rs k).s) (enters_of Try.func42 (by kernel_rfl) rfl) (enters_of Try.func43 (by kernel_rfl) rfl) (enters_of Try.func44 (by kernel_rfl) rfl)
    (fun W o _ hW => hasK_any rs rv okr o.t w.heap.size W (hr.below (hb.trans (hW.mono hb.size))) hrm (cellOf ((hW.block _ (by rw [hsz]; omega)).trans h0) 0 _ rfl))
    (fun W o ho hW => fits3_any rs rv okr o w.heap.size (w.heap.size + 1) W (hr.below (hb.trans (hW.mono hb.size))) hrm (cellOf ((hW.block _ (by rw [hsz]; omega)).trans h0) 0 _ rfl) (by have := hW.size; rw [hsz] at this; omega)
      (cellOf ((hW.block _ (by rw [hsz]; omega)).trans h1) 0 _ rfl) (by have := hW.size; rw [hsz] at this; omega) (hv o ho))
    (fun W o _ hW => instead_any rs rv okr o.t w.heap.size (w.heap.size + 1) W (hr.below (hb.trans (hW.mono hb.size))) hrm (cellOf ((hW.block _ (by rw [hsz]; omega)).trans h0) 0 _ rfl) (by have := hW.size; rw [hsz] at this; omega)
      (cellOf ((hW.block _ (by rw [hsz]; omega)).trans h1) 0 _ rfl)))
  obtain ⟨sa, c, rfl, hc, hm⟩ := hl.form
  obtain ⟨sb, d, rfl, hd, hn⟩ := hr.form
  have HB := Lib.hid hb
  clear hb h0 h1 hsz hl hr
  go_enter Try.func18, Try.ntmps18
  go_wp2_with fail
  refine HJ.out.mono ?_
  rintro e w' ⟨v, rfl, hrow, hb⟩
  have H6 := Lib.hid (And.intro hrow hb)
  clear hrow hb
  obtain ⟨va, vc, rfl⟩ := H6.out.1.form
  go_wp2_with fail
  go_ret2
  exact ⟨_, rfl, H6.out.1.base HB.out.size, HB.out.trans (H6.out.2.mono HB.out.size)⟩
end Go.Proofs.Ytidlldfppoelnaa
