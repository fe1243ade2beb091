import Derived.Test.YtkfcjcbjefpliaaN23
import Derived.Lib.ConvBytes
import Derived.Laws.IdiomStrings
import Derived.RegionTactic
import Derived.BigRegion
namespace Go.Proofs.Ytkfcjcbjefpliaa
open Go.RowKit Go.Tg Go.Maps Go.Sort

theorem bits_xor_u8_nat (a b : Nat) (ha : a < 256) (hb : b < 256) : bits .xor .u8 (a : Int) (b : Int) = ((a ^^^ b : Nat) : Int) := by
  have hx : a ^^^ b < 2 ^ 8 := Nat.xor_lt_two_pow (by omega) (by omega)
  have h1 : (BitVec.ofInt 8 (a : Int)).toNat = a := by
    rw [BitVec.ofInt_natCast, BitVec.toNat_ofNat]; exact Nat.mod_eq_of_lt (by omega)
  have h2 : (BitVec.ofInt 8 (b : Int)).toNat = b := by
    rw [BitVec.ofInt_natCast, BitVec.toNat_ofNat]; exact Nat.mod_eq_of_lt (by omega)
  have hw : ∀ n : Int, IntKind.u8.wrap n = n % 256 := fun n => by simp [IntKind.wrap, IntKind.bits, IntKind.signed]
  show IntKind.u8.wrap ((BitVec.ofInt 8 (a : Int) ^^^ BitVec.ofInt 8 (b : Int)).toNat : Int) = _
  rw [BitVec.toNat_xor, h1, h2, hw]
  omega

/-- The datagram's bytes behind a Spoil. -/
def spoilL (d : ByteArray) (p m : Nat) : List UInt8 := d.data.toList.set p (UInt8.ofNat ((d.data.toList.getD p 0).toNat ^^^ m))
def spoilD (d : ByteArray) (p m : Nat) : ByteArray := ⟨(spoilL d p m).toArray⟩
theorem spoilL_len (d : ByteArray) (p m : Nat) : (spoilL d p m).length = d.size := by
  rw [spoilL, List.length_set, Array.length_toList]
  rfl
theorem spoilD_size (d : ByteArray) (p m : Nat) : (spoilD d p m).size = d.size := by
  show (spoilL d p m).toArray.size = _
  rw [List.size_toArray, spoilL_len]
theorem xor_u8 (x : UInt8) (m : Nat) (hm : m < 256) : (UInt8.ofNat (x.toNat ^^^ m)).toNat = x.toNat ^^^ m := by
  have hx : x.toNat ^^^ m < 2 ^ 8 := Nat.xor_lt_two_pow x.toNat_lt (by omega)
  rw [UInt8.toNat_ofNat']
  exact Nat.mod_eq_of_lt hx

theorem str_nonempty {d : ByteArray} (h : 0 < d.size) : d.toList.isEmpty = false := by
  rw [Lib.toList_data]
  cases hx : d.data.toList with
  | nil =>
    have : d.data.toList.length = d.size := by rw [Array.length_toList]; rfl
    rw [hx] at this
    simp at this
    omega
  | cons => rfl

theorem bw_frozen (w : World) (e : TypeId) (s : ByteArray) (j : Nat) (hj : j < s.size) : (Lib.bytesWorld w e s).frozen? ⟨w.heap.size, j, none⟩ = false := by
  have hs : s.size ≤ (Lib.bytesCells w e s).size := by simp [Lib.bytesCells]
  simp [World.frozen?, Lib.bytesWorld_at_new]
  omega
theorem bw_keep (S : Nat → Prop) (w : World) (e : TypeId) (s : ByteArray) : Keep S w (Lib.bytesWorld w e s) :=
  ⟨rfl, rfl, rfl, by rw [Lib.bytesWorld_size]; omega, fun k hk _ => Lib.bytesWorld_at_old w e s k hk⟩

theorem flat_set (l : List Gram) (k : Nat) (g : Gram) (hk : k < l.length) (D : ByteArray) : (flat l).set (k * 4 + 2) (.string D) = flat (l.set k { l[k] with d := D }) := by
  induction l generalizing k with
  | nil => simp at hk
  | cons x l ih =>
    cases k with
    | zero => rfl
    | succ k =>
      show (x.cells ++ flat l).set ((k + 1) * 4 + 2) _ = x.cells ++ flat (l.set k _)
      rw [List.set_append_right _ _ (by show 4 ≤ _; omega), show (k + 1) * 4 + 2 - x.cells.length = k * 4 + 2 from by show _ - 4 = _; omega, ih k (by simpa using hk)]
      rfl

theorem row_set {w : World} {g cap n : Nat} {l : List Gram} (h : w.ownsRow 0 63 4 (.slice (some ⟨g, 0, none⟩) n cap) n (flat l)) (hn : n = l.length) (k : Nat) (hk : k < l.length) (D : ByteArray) :
    (w.setCell ⟨g, k * 4 + 2, none⟩ (.string D)).ownsRow 0 63 4 (.slice (some ⟨g, 0, none⟩) n cap) n (flat (l.set k { l[k] with d := D })) := by
  obtain ⟨h0, ⟨hv, _⟩ | ⟨g', cap', cur, hv, h1, h2, h3, h4, h5, h6⟩⟩ := h
  · cases hv
  · cases hv
    refine ⟨by rw [flat_len, List.length_set, hn], Or.inr ⟨g, cap, _, rfl, h1, blk_setCell h2, h3, h4, by simpa using h5, ?_⟩⟩
    rw [← flat_set l k l[k] hk D, ← h6, Array.toList_setIfInBounds, List.take_set]

set_option maxHeartbeats 4000000 in
set_option maxRecDepth 100000 in
theorem spoil_pos {w : World} {S : Nat → Prop} {b : Nat} {st : NetS} {loc : Int → Int → Nat} {lv av cv : Value} (h : NetV w S b st loc lv av cv) (k : Nat) (hk : k < st.l.length) (hlen : st.l.length ≤ 1000000)
    (d : ByteArray) (hd : st.l[k].d = d) (n : Nat) (hn : d.size = n) (hn0 : 0 < n) (hn1 : n ≤ 1000000) (at' : Int) (m : Nat) (hat : I64 at') (hb1 : 1 ≤ m) (hb2 : m ≤ 255) (p : Nat) (hp : p < n) (hA : 0 ≤ at'.tmod n ∧ at'.tmod n = p) :
    Calls Try.prog 19 #[.pointer (some ⟨b, 0, none⟩), .int .i64 k, .int .i64 at', .int .i64 m] w fun e w' => e = .returned (.int .i64 0) ∧ NetV w' S b { st with l := st.l.set k { st.l[k] with d := spoilD d p m } } loc lv av cv ∧ Keep S w w' := by
  have hP := peek_ok h k hk hlen
  rw [hd] at hP
  have kc : ∀ w, (convert 9 65 (.string d)).run Try.prog w = .ok (.slice (some ⟨w.heap.size, 0, none⟩) d.size (grownCap w d.size 0 5)) (Lib.bytesWorld w 5 d) := fun w => Lib.run_convert_string_bytes (P := Try.prog) w 9 65 5 d Try.underlying9 Try.underlying65 Try.underlying5
  obtain ⟨g, cap, cur, rfl, hg, hcap, hmax, hsz, htk⟩ : ∃ g cap cur, lv = .slice (some ⟨g, 0, none⟩) st.l.length cap ∧ w.heap[g]? = some (.cells cur 63 (0, 0)) ∧ st.l.length ≤ cap ∧ cap ≤ maxLen ∧ cur.size = cap * 4 ∧ cur.toList.take (st.l.length * 4) = flat st.l := by
    obtain ⟨_, ⟨_, hn⟩ | ⟨g, cap, cur, hv, _, h2, h3, h4, h5, h6⟩⟩ := h.row
    · omega
    · exact ⟨g, cap, cur, hv, h2, h3, h4, h5, h6⟩
  have hgl : g < w.heap.size := (Array.getElem?_eq_some_iff.1 hg).1
  have hbl : b < w.heap.size := (Array.getElem?_eq_some_iff.1 h.blk).1
  have hgb : g ≠ b := by rintro rfl; rw [h.blk] at hg; cases hg
  obtain ⟨ln, hln⟩ : ∃ ln, ln = st.l.length := ⟨_, rfl⟩
  have H := Lib.hid h
  have HD := Lib.hid hd
  have HG := Lib.hid (And.intro hg (And.intro hsz htk))
  have HLN := Lib.hid hln
  have HK := Lib.hid hk
  generalize st.l[k].f = f at hP
  generalize st.l[k].t = t at hP
  rw [← hln] at hk hlen hcap
  have hcb := cell_of h.blk 0 _ rfl
  rw [← hln] at hcb
  unfold maxLen at hmax
  have hi0 : (0 : Int) ≤ (k : Int) := by omega
  have hi1 : (k : Int) < (ln : Int) := by omega
  clear h hd hg hsz htk hln
  have q1 : decide ((m : Int) < 1) = false := by simp; omega
  have q2 : decide ((255 : Int) < (m : Int)) = false := by simp; omega
  have q3 : decide ((p : Int) < 0) = false := by simp
  have q4 := str_nonempty (d := d) (by omega)
  go_enter Try.func19, Try.ntmps19
  go_wp2_with fail
  refine hP.mono ?_
  rintro e w1 ⟨rfl, hk1⟩
  have hsz5 : (w1.alloc (.cells #[.int .i64 f, .int .i64 t, .string d] 29)).heap.size = w1.heap.size + 1 := Array.size_push _
  have c5 := Lib.bytesWorld_cell (w1.alloc (.cells #[.int .i64 f, .int .i64 t, .string d] 29)) 5 d p (by omega)
  have f5 := bw_frozen (w1.alloc (.cells #[.int .i64 f, .int .i64 t, .string d] 29)) 5 d p (by omega)
  have N5 := Lib.hid (fun j => Lib.bytesWorld_cell (w1.alloc (.cells #[.int .i64 f, .int .i64 t, .string d] 29)) 5 d j)
  rw [hsz5] at c5 f5 N5
  have hx : (d.data.toList.getD p 0).toNat < 256 := (d.data.toList.getD p 0).toNat_lt
  generalize hxe : (d.data.toList.getD p 0).toNat = x at c5 hx
  have hbx := bits_xor_u8_nat x m hx (by omega)
  have HXE := Lib.hid hxe
  have hk5 : Keep (fun _ => False) w (Lib.bytesWorld (w1.alloc (.cells #[.int .i64 f, .int .i64 t, .string d] 29)) 5 d) := (hk1.alloc _).trans (bw_keep _ _ _ _)
  have HK5 := Lib.hid hk5
  have HW1 := Lib.hid hk1.size
  clear hxe hk5 hk1 hP
  go_wp2_with fail
  obtain ⟨WX, hWX⟩ : ∃ WX, WX = (Lib.bytesWorld (w1.alloc (.cells #[.int .i64 f, .int .i64 t, .string d] 29)) 5 d).setCell ⟨w1.heap.size + 1, p, none⟩ (.int .u8 ((x ^^^ m : Nat) : Int)) := ⟨_, rfl⟩
  rw [← hWX]
  have hkX : Keep (fun _ => False) w WX := by
    rw [hWX]
    exact HK5.out.setCell _ (Or.inl (by have := HW1.out; show w.heap.size ≤ w1.heap.size + 1; omega)) _
  have hgX := (hkX.block g hgl (by simp)).trans HG.out.1
  have cb : WX.cell? ⟨b, 0, none⟩ = some (.slice (some ⟨g, 0, none⟩) ln cap) := (hkX.cell (p := ⟨b, 0, none⟩) hbl (by simp)).trans hcb
  have cg : WX.cell? ⟨g, k * 4 + 2, none⟩ = some (.string d) := by
    rw [cells_at (cap := 0) hgX HG.out.2.2 (k * 4 + 2) (by rw [← HLN.out]; omega), flat_at _ _ _ HK.out (by omega)]
    rw [← HD.out]
    rfl
  have fg : WX.frozen? ⟨g, k * 4 + 2, none⟩ = false := fz_of hgX _
  have hcv : ∀ W : World, (∀ a, W.cell? a = WX.cell? a) → ∀ c, (convert 65 9 (.slice (some ⟨w1.heap.size + 1, 0, none⟩) n c)).run Try.prog W = .ok (.string (spoilD d p m)) W := by
    intro W hW c
    have := run_convert_bytes_back (P := Try.prog) W 65 9 5 ⟨w1.heap.size + 1, 0, none⟩ c (spoilL d p m) Try.underlying65 Try.underlying5 Try.underlying9 (fun j hj => by
      rw [spoilL_len] at hj
      rw [Addr.add_lit, Nat.zero_add, hW, hWX]
      by_cases e : j = p
      · subst e
        rw [World.cell?_setCell_same' _ _ _ (by rw [c5]; rfl)]
        simp only [spoilL, List.getElem_set_self]
        rw [xor_u8 _ _ (by omega), HXE.out]
      · rw [World.cell?_setCell_other _ _ _ _ (by simp [Ne.symm e]), N5.out j hj]
        simp only [spoilL]
        rw [List.getElem_set_ne (by omega)]
        rw [List.getD_eq_getElem?_getD, List.getElem?_eq_getElem (by rw [Array.length_toList]; exact hj)]
        rfl)
    rw [spoilL_len, hn] at this
    exact this
  have hcv1 := hcv WX (fun _ => rfl)
  have hcv2 := hcv WX.drew (fun _ => rfl)
  have HKX := Lib.hid hkX
  clear hcv hWX hkX hgX c5 f5 kc hcb
  go_region
  all_goals (
    go_wp2_with fail
    go_ret
    have hkX := HKX.out.drew
    have hvX := H.out.keep hkX (by intro k _ _ hk; exact hk)
    have hkF := (Keep.refl (· = g) WX.drew).setB (k * 4 + 2) (.string (spoilD d p m))
    refine ⟨rfl, ?_, (hkX.mono (fun _ _ h => h.elim)).trans (hkF.mono (by rintro k _ rfl; exact H.out.hrow _ rfl))⟩
    refine hvX.setL hkF (by rintro k rfl _; exact Or.inr ⟨_, (hkX.block _ hgl (by simp)).trans HG.out.1⟩) ((Below.heap_setCell _ _ _ _ (Ne.symm hgb)).trans hvX.blk) ?_ H.out.hrow
    rw [List.length_set]
    exact HD.out ▸ row_set hvX.row rfl k HK.out _)
set_option maxHeartbeats 4000000 in
set_option maxRecDepth 100000 in
theorem spoil_neg {w : World} {S : Nat → Prop} {b : Nat} {st : NetS} {loc : Int → Int → Nat} {lv av cv : Value} (h : NetV w S b st loc lv av cv) (k : Nat) (hk : k < st.l.length) (hlen : st.l.length ≤ 1000000)
    (d : ByteArray) (hd : st.l[k].d = d) (n : Nat) (hn : d.size = n) (hn0 : 0 < n) (hn1 : n ≤ 1000000) (at' : Int) (m : Nat) (hat : I64 at') (hb1 : 1 ≤ m) (hb2 : m ≤ 255) (p : Nat) (hp : p < n) (hA : at'.tmod n < 0 ∧ at'.tmod n + n = p) :
    Calls Try.prog 19 #[.pointer (some ⟨b, 0, none⟩), .int .i64 k, .int .i64 at', .int .i64 m] w fun e w' => e = .returned (.int .i64 0) ∧ NetV w' S b { st with l := st.l.set k { st.l[k] with d := spoilD d p m } } loc lv av cv ∧ Keep S w w' := by
  have hP := peek_ok h k hk hlen
  rw [hd] at hP
  have kc : ∀ w, (convert 9 65 (.string d)).run Try.prog w = .ok (.slice (some ⟨w.heap.size, 0, none⟩) d.size (grownCap w d.size 0 5)) (Lib.bytesWorld w 5 d) := fun w => Lib.run_convert_string_bytes (P := Try.prog) w 9 65 5 d Try.underlying9 Try.underlying65 Try.underlying5
  obtain ⟨g, cap, cur, rfl, hg, hcap, hmax, hsz, htk⟩ : ∃ g cap cur, lv = .slice (some ⟨g, 0, none⟩) st.l.length cap ∧ w.heap[g]? = some (.cells cur 63 (0, 0)) ∧ st.l.length ≤ cap ∧ cap ≤ maxLen ∧ cur.size = cap * 4 ∧ cur.toList.take (st.l.length * 4) = flat st.l := by
    obtain ⟨_, ⟨_, hn⟩ | ⟨g, cap, cur, hv, _, h2, h3, h4, h5, h6⟩⟩ := h.row
    · omega
    · exact ⟨g, cap, cur, hv, h2, h3, h4, h5, h6⟩
  have hgl : g < w.heap.size := (Array.getElem?_eq_some_iff.1 hg).1
  have hbl : b < w.heap.size := (Array.getElem?_eq_some_iff.1 h.blk).1
  have hgb : g ≠ b := by rintro rfl; rw [h.blk] at hg; cases hg
  obtain ⟨ln, hln⟩ : ∃ ln, ln = st.l.length := ⟨_, rfl⟩
  have H := Lib.hid h
  have HD := Lib.hid hd
  have HG := Lib.hid (And.intro hg (And.intro hsz htk))
  have HLN := Lib.hid hln
  have HK := Lib.hid hk
  generalize st.l[k].f = f at hP
  generalize st.l[k].t = t at hP
  rw [← hln] at hk hlen hcap
  have hcb := cell_of h.blk 0 _ rfl
  rw [← hln] at hcb
  unfold maxLen at hmax
  have hi0 : (0 : Int) ≤ (k : Int) := by omega
  have hi1 : (k : Int) < (ln : Int) := by omega
  clear h hd hg hsz htk hln
  have q1 : decide ((m : Int) < 1) = false := by simp; omega
  have q2 : decide ((255 : Int) < (m : Int)) = false := by simp; omega
  have q3 : decide (at'.tmod n < 0) = true := by simp [hA.1]
  have q4 := str_nonempty (d := d) (by omega)
  go_enter Try.func19, Try.ntmps19
  go_wp2_with fail
  refine hP.mono ?_
  rintro e w1 ⟨rfl, hk1⟩
  have hsz5 : (w1.alloc (.cells #[.int .i64 f, .int .i64 t, .string d] 29)).heap.size = w1.heap.size + 1 := Array.size_push _
  have c5 := Lib.bytesWorld_cell (w1.alloc (.cells #[.int .i64 f, .int .i64 t, .string d] 29)) 5 d p (by omega)
  have f5 := bw_frozen (w1.alloc (.cells #[.int .i64 f, .int .i64 t, .string d] 29)) 5 d p (by omega)
  have N5 := Lib.hid (fun j => Lib.bytesWorld_cell (w1.alloc (.cells #[.int .i64 f, .int .i64 t, .string d] 29)) 5 d j)
  rw [hsz5] at c5 f5 N5
  have hx : (d.data.toList.getD p 0).toNat < 256 := (d.data.toList.getD p 0).toNat_lt
  generalize hxe : (d.data.toList.getD p 0).toNat = x at c5 hx
  have hbx := bits_xor_u8_nat x m hx (by omega)
  have HXE := Lib.hid hxe
  have hk5 : Keep (fun _ => False) w (Lib.bytesWorld (w1.alloc (.cells #[.int .i64 f, .int .i64 t, .string d] 29)) 5 d) := (hk1.alloc _).trans (bw_keep _ _ _ _)
  have HK5 := Lib.hid hk5
  have HW1 := Lib.hid hk1.size
  clear hxe hk5 hk1 hP
  go_wp2_with fail
  obtain ⟨WX, hWX⟩ : ∃ WX, WX = (Lib.bytesWorld (w1.alloc (.cells #[.int .i64 f, .int .i64 t, .string d] 29)) 5 d).setCell ⟨w1.heap.size + 1, p, none⟩ (.int .u8 ((x ^^^ m : Nat) : Int)) := ⟨_, rfl⟩
  rw [← hWX]
  have hkX : Keep (fun _ => False) w WX := by
    rw [hWX]
    exact HK5.out.setCell _ (Or.inl (by have := HW1.out; show w.heap.size ≤ w1.heap.size + 1; omega)) _
  have hgX := (hkX.block g hgl (by simp)).trans HG.out.1
  have cb : WX.cell? ⟨b, 0, none⟩ = some (.slice (some ⟨g, 0, none⟩) ln cap) := (hkX.cell (p := ⟨b, 0, none⟩) hbl (by simp)).trans hcb
  have cg : WX.cell? ⟨g, k * 4 + 2, none⟩ = some (.string d) := by
    rw [cells_at (cap := 0) hgX HG.out.2.2 (k * 4 + 2) (by rw [← HLN.out]; omega), flat_at _ _ _ HK.out (by omega)]
    rw [← HD.out]
    rfl
  have fg : WX.frozen? ⟨g, k * 4 + 2, none⟩ = false := fz_of hgX _
  have hcv : ∀ W : World, (∀ a, W.cell? a = WX.cell? a) → ∀ c, (convert 65 9 (.slice (some ⟨w1.heap.size + 1, 0, none⟩) n c)).run Try.prog W = .ok (.string (spoilD d p m)) W := by
    intro W hW c
    have := run_convert_bytes_back (P := Try.prog) W 65 9 5 ⟨w1.heap.size + 1, 0, none⟩ c (spoilL d p m) Try.underlying65 Try.underlying5 Try.underlying9 (fun j hj => by
      rw [spoilL_len] at hj
      rw [Addr.add_lit, Nat.zero_add, hW, hWX]
      by_cases e : j = p
      · subst e
        rw [World.cell?_setCell_same' _ _ _ (by rw [c5]; rfl)]
        simp only [spoilL, List.getElem_set_self]
        rw [xor_u8 _ _ (by omega), HXE.out]
      · rw [World.cell?_setCell_other _ _ _ _ (by simp [Ne.symm e]), N5.out j hj]
        simp only [spoilL]
        rw [List.getElem_set_ne (by omega)]
        rw [List.getD_eq_getElem?_getD, List.getElem?_eq_getElem (by rw [Array.length_toList]; exact hj)]
        rfl)
    rw [spoilL_len, hn] at this
    exact this
  have hcv1 := hcv WX (fun _ => rfl)
  have hcv2 := hcv WX.drew (fun _ => rfl)
  have HKX := Lib.hid hkX
  clear hcv hWX hkX hgX c5 f5 kc hcb
  go_region
  all_goals (
    go_wp2_with fail
    go_ret
    have hkX := HKX.out.drew
    have hvX := H.out.keep hkX (by intro k _ _ hk; exact hk)
    have hkF := (Keep.refl (· = g) WX.drew).setB (k * 4 + 2) (.string (spoilD d p m))
    refine ⟨rfl, ?_, (hkX.mono (fun _ _ h => h.elim)).trans (hkF.mono (by rintro k _ rfl; exact H.out.hrow _ rfl))⟩
    refine hvX.setL hkF (by rintro k rfl _; exact Or.inr ⟨_, (hkX.block _ hgl (by simp)).trans HG.out.1⟩) ((Below.heap_setCell _ _ _ _ (Ne.symm hgb)).trans hvX.blk) ?_ H.out.hrow
    rw [List.length_set]
    exact HD.out ▸ row_set hvX.row rfl k HK.out _)

/-- The place that 'at' comes to in n bytes. -/
def Place (at' : Int) (n p : Nat) : Prop := p < n ∧ ((0 ≤ at'.tmod n ∧ at'.tmod n = p) ∨ (at'.tmod n < 0 ∧ at'.tmod n + n = p))
theorem place_ex (at' : Int) (n : Nat) (hn : 0 < n) : ∃ p, Place at' n p := by
  have h1 := Int.tmod_lt_of_pos at' (show (0 : Int) < (n : Int) by omega)
  have h2 := Int.lt_tmod_of_pos at' (show (0 : Int) < (n : Int) by omega)
  by_cases h : 0 ≤ at'.tmod n
  · exact ⟨(at'.tmod n).toNat, by omega, Or.inl ⟨h, by omega⟩⟩
  · exact ⟨(at'.tmod n + n).toNat, by omega, Or.inr ⟨by omega, by omega⟩⟩

theorem NetI.spoil {W w : World} {N : Nat → Prop} {b : Nat} {st : NetS} (h : NetI W N b st w) (k : Nat) (hk : k < st.l.length) (hlen : st.l.length ≤ 1000000)
    (d : ByteArray) (hd : st.l[k].d = d) (hn0 : 0 < d.size) (hn1 : d.size ≤ 1000000) (at' : Int) (m : Nat) (hat : I64 at') (hb1 : 1 ≤ m) (hb2 : m ≤ 255) (p : Nat) (hp : Place at' d.size p) :
    Calls Try.prog 19 #[.pointer (some ⟨b, 0, none⟩), .int .i64 k, .int .i64 at', .int .i64 m] w fun e w' => e = .returned (.int .i64 0) ∧ NetI W N b { st with l := st.l.set k { st.l[k] with d := spoilD d p m } } w' ∧ Kp W N w w' := by
  obtain ⟨S, loc, lv, av, cv, hv, hS⟩ := h.ex
  rcases hp.2 with hp' | hp'
  · refine (spoil_pos hv k hk hlen d hd d.size rfl hn0 hn1 at' m hat hb1 hb2 p hp.1 hp').mono ?_
    rintro e w' ⟨rfl, h', hk⟩
    exact ⟨rfl, h.step hS (h'.mono Grow.le) hk⟩
  · refine (spoil_neg hv k hk hlen d hd d.size rfl hn0 hn1 at' m hat hb1 hb2 p hp.1 hp').mono ?_
    rintro e w' ⟨rfl, h', hk⟩
    exact ⟨rfl, h.step hS (h'.mono Grow.le) hk⟩

theorem spoil_get (d : ByteArray) (p m : Nat) (hp : p < d.size) : ((spoilD d p m).data.toList.getD p 0) = UInt8.ofNat ((d.data.toList.getD p 0).toNat ^^^ m) := by
  have hl : p < d.data.toList.length := by rw [Array.length_toList]; exact hp
  show (spoilL d p m).getD p 0 = _
  rw [List.getD_eq_getElem?_getD, spoilL, List.getElem?_set_self hl]
  rfl
theorem spoil_back (d : ByteArray) (p m : Nat) (hp : p < d.size) (hm : m < 256) : spoilD (spoilD d p m) p m = d := by
  have hl : p < d.data.toList.length := by rw [Array.length_toList]; exact hp
  apply ByteArray.ext
  apply Array.toList_inj.1
  show ((spoilL d p m).set p (UInt8.ofNat (((spoilD d p m).data.toList.getD p 0).toNat ^^^ m))) = _
  rw [spoil_get d p m hp, xor_u8 _ _ hm, Nat.xor_assoc, Nat.xor_self, Nat.xor_zero, UInt8.ofNat_toNat, spoilL, List.set_set, List.getD_eq_getElem?_getD, List.getElem?_eq_getElem hl]
  exact List.set_getElem_self hl
theorem spoil_ne (d : ByteArray) (p m : Nat) (hp : p < d.size) (hm : m < 256) (hm1 : 1 ≤ m) : spoilD d p m ≠ d := by
  intro e
  have h := spoil_get d p m hp
  rw [e] at h
  have h2 := congrArg UInt8.toNat h
  rw [xor_u8 _ _ hm] at h2
  generalize (d.data.toList.getD p 0).toNat = x at h2
  have h3 : x ^^^ x = x ^^^ (x ^^^ m) := congrArg (x ^^^ ·) h2
  rw [Nat.xor_self, ← Nat.xor_assoc, Nat.xor_self, Nat.zero_xor] at h3
  omega
end Go.Proofs.Ytkfcjcbjefpliaa
