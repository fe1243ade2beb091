import Derived.Test.YtijepfjfmpmfnaaV48
import Derived.Test.YtijepfjfmpmfnaaV47
import Derived.ChangeKeysEq
import Derived.Laws.Cover3
import Derived.Laws.IdiomStrings
/- Addresses. -/
namespace Go.Proofs.Ytijepfjfmpmfnaa
open Go.RowKit Go.Tg Go.Maps

structure Ad where
  a : UInt8
  b : UInt8
  c : UInt8
  d : UInt8
def Ad.v (x : Ad) : Value := .agg #[.int .u8 (x.a.toNat : Int), .int .u8 (x.b.toNat : Int), .int .u8 (x.c.toNat : Int), .int .u8 (x.d.toNat : Int)]
def Ad.cs (x : Ad) : Array Value := #[.int .u8 (x.a.toNat : Int), .int .u8 (x.b.toNat : Int), .int .u8 (x.c.toNat : Int), .int .u8 (x.d.toNat : Int)]
def Ad.s (x : Ad) : ByteArray := ⟨#[x.a, x.b, x.c, x.d]⟩
def Ad.z : Ad := ⟨0, 0, 0, 0⟩
def adE (x y : Ad) : Bool := decide (x.a = y.a) && (decide (x.b = y.b) && (decide (x.c = y.c) && decide (x.d = y.d)))
theorem adE_iff (x y : Ad) : adE x y = true ↔ x = y := by
  obtain ⟨a, b, c, d⟩ := x
  obtain ⟨a', b', c', d'⟩ := y
  simp [adE]
theorem ad_u8 (x y : UInt8) : ((x.toNat : Int) == (y.toNat : Int)) = decide (x = y) := by
  by_cases h : x = y
  · subst h; simp
  · have : ¬ (x.toNat : Int) = (y.toNat : Int) := fun e => h (UInt8.toNat_inj.1 (by omega))
    simp [h, this]

theorem adEqual (x y : Ad) (w : World) : (Op.equalIn 10000 49 x.v y.v).run Try.prog w = .ok (adE x y) w := by
  have u5 := Try.underlying5
  obtain ⟨i, hi, -, h1, -⟩ := u8_info
  have hc : Try.prog.cellsOf 5 = 1 := by simp [Program.cellsOf, hi, h1]
  have hu : Try.prog.underlying 49 = some (.array 4 5) := Try.underlying49
  unfold Ad.v
  rw [show (10000 : Nat) = 9999 + 1 from rfl, run_equalIn_array w 9999 _ _ hu hi, hc]
  have hpk : Try.prog.plainKey 5 = true := by simp [Program.plainKey, u5]
  have p0 := fun (a b c d : Value) (w : World) => run_part_plain (P := Try.prog) (w := w) hpk (show (#[a, b, c, d])[0]? = some a from rfl)
  have p1 := fun (a b c d : Value) (w : World) => run_part_plain (P := Try.prog) (w := w) hpk (show (#[a, b, c, d])[1]? = some b from rfl)
  have p2 := fun (a b c d : Value) (w : World) => run_part_plain (P := Try.prog) (w := w) hpk (show (#[a, b, c, d])[2]? = some c from rfl)
  have p3 := fun (a b c d : Value) (w : World) => run_part_plain (P := Try.prog) (w := w) hpk (show (#[a, b, c, d])[3]? = some d from rfl)
  have eqi : ∀ (a b : UInt8) (w : World), (Op.equalIn 9999 5 (.int .u8 (a.toNat : Int)) (.int .u8 (b.toNat : Int))).run Try.prog w = .ok (decide (a = b)) w := fun a b w => by
    rw [← ad_u8]; exact run_equalIn_int (P := Try.prog) w 9998 5 .u8 .u8 (a.toNat : Int) (b.toNat : Int) u5
  simp only [show List.range 4 = [0, 1, 2, 3] from rfl, Op.eqItems, Sem.run_bind, Nat.mul_one, p0, p1, p2, p3, Result.andThen_ok, eqi]
  unfold adE
  by_cases e0 : x.a = y.a <;> by_cases e1 : x.b = y.b <;> by_cases e2 : x.c = y.c <;> by_cases e3 : x.d = y.d <;> simp [e0, e1, e2, e3, p0, p1, p2, p3, eqi]
theorem adEql (x y : Ad) (w : World) : (binOp .eql 49 x.v y.v).run Try.prog w = .ok (.bool (adE x y)) w := by
  have h := adEqual x y w
  unfold Ad.v at h ⊢
  rw [run_eql_struct, h]; rfl
theorem adNeq (x y : Ad) (w : World) : (binOp .neq 49 x.v y.v).run Try.prog w = .ok (.bool (!adE x y)) w := by
  have h := adEqual x y w
  unfold Ad.v at h ⊢
  rw [run_neq_struct, h]; rfl

set_option maxHeartbeats 1000000 in
/-- A rule for an address of some numbers. -/
theorem span_any (k m : Int) (s : ByteArray) (w : World) : Calls Try.prog 44 #[.int .i64 k, .int .i64 m, .string s] w fun e w' => e = .returned (.agg #[.int .i64 k, .int .i64 4, .int .i64 m, .int .i64 4294967295, .string s]) ∧ Below w.heap.size w w' := by
  go_enter Try.func44, Try.ntmps44
  go_wp2_with fail
  refine bodyPost_ret (results_cell_row rfl _ _ w.heap.size 43 _ (0, 0) _ rfl (at1 w _) Try.underlying43 rfl (by kernel_rfl)) rfl ?_
  exact ⟨rfl, (Below.refl _ _).alloc (Nat.le_refl _) _⟩

def justR (k : Int) (x : Ad) : Rl := ⟨k, 4, valB [x.a, x.b, x.c, x.d], valB [x.a, x.b, x.c, x.d], x.s⟩
def spanR (k m : Int) (s : ByteArray) : Rl := ⟨k, 4, m, 4294967295, s⟩

theorem addr_cells : (Try.prog.info? 49).map (·.size) = some 4 := by kernel_rfl
theorem conv_ad (x : Ad) (b : Nat) (w : World) (h : w.heap[b]? = some (.cells x.cs 49 (0, 0))) : (convert 82 9 (.slice (some ⟨b, 0, none⟩) 4 4)).run Try.prog w = .ok (.string x.s) w := by
  have := run_convert_bytes_back (P := Try.prog) w 82 9 5 ⟨b, 0, none⟩ 4 [x.a, x.b, x.c, x.d] Try.underlying82 Try.underlying5 Try.underlying9 (fun j hj => by
    have e : (⟨b, 0, none⟩ : Addr).add j = ⟨b, j, none⟩ := by unfold Addr.add; split <;> simp_all
    rw [e]
    have hj' : j < 4 := hj
    refine cellOf h j _ ?_
    unfold Ad.cs
    rcases (show j = 0 ∨ j = 1 ∨ j = 2 ∨ j = 3 by omega) with rfl | rfl | rfl | rfl <;> rfl)
  exact this

set_option maxHeartbeats 2000000 in
set_option maxRecDepth 100000 in
/-- A rule for one address. -/
theorem just_any (k : Int) (x : Ad) (w : World) : Calls Try.prog 43 #[.int .i64 k, x.v] w fun e w' => e = .returned (.agg #[.int .i64 k, .int .i64 4, .int .i64 (valB [x.a, x.b, x.c, x.d]), .int .i64 (valB [x.a, x.b, x.c, x.d]), .string x.s]) ∧ Below w.heap.size w w' := by
  obtain ⟨W, hW, hs, x0, x1⟩ : ∃ W, W = (w.alloc (.cells x.cs 49 (0, 0))).alloc (.cells #[.int .i64 0, .int .i64 0, .int .i64 0, .int .i64 0, .string ⟨#[]⟩] 43 (0, 0)) ∧ W.heap.size = w.heap.size + 1 + 1 ∧ W.heap[w.heap.size]? = some (.cells x.cs 49 (0, 0)) ∧ W.heap[w.heap.size + 1]? = some (.cells #[.int .i64 0, .int .i64 0, .int .i64 0, .int .i64 0, .string ⟨#[]⟩] 43 (0, 0)) :=
    ⟨_, rfl, by rw [alloc1, alloc1], by rw [Below.heap_alloc _ _ _ (by rw [alloc1]; omega)]; exact at1 _ _, by rw [← alloc1 w (.cells x.cs 49 (0, 0))]; exact at1 _ _⟩
  have hcv := conv_ad x w.heap.size W x0
  have HV := Lib.hid (value_any x.s W (show 4 ≤ 7 by decide))
  have HB : Hid (Below w.heap.size w W) := Lib.hid (by rw [hW]; exact ((Below.refl _ _).alloc (Nat.le_refl _) _).alloc (by rw [alloc1]; omega) _)
  have HX := Lib.hid x1
  have z1 := fun o => fzOf x1 o
  have y0 : W.cell? ⟨w.heap.size + 1, 0, none⟩ = some (.int .i64 0) := cellOf x1 0 _ rfl
  have y1 : W.cell? ⟨w.heap.size + 1, 1, none⟩ = some (.int .i64 0) := cellOf x1 1 _ rfl
  have y2 : W.cell? ⟨w.heap.size + 1, 2, none⟩ = some (.int .i64 0) := cellOf x1 2 _ rfl
  have y3 : W.cell? ⟨w.heap.size + 1, 3, none⟩ = some (.int .i64 0) := cellOf x1 3 _ rfl
  have y4 : W.cell? ⟨w.heap.size + 1, 4, none⟩ = some (.string ⟨#[]⟩) := cellOf x1 4 _ rfl
  unfold Ad.cs at hW
  unfold Ad.v
  rw [show valB [x.a, x.b, x.c, x.d] = valB x.s.data.toList from rfl]
  generalize x.s = s at *
  generalize valB s.data.toList = n at *
  clear x0 x1 hs
  go_enter Try.func43, Try.ntmps43
  rw [hW] at hcv
  go_wp2_with (rw [← hW]; refine HV.out.mono ?_; rintro e w1 ⟨rfl, rfl⟩)
  refine bodyPost_ret (results_cell_row rfl _ _ (w.heap.size + 1) 43 _ (0, 0) _ rfl (at21 w _ _) Try.underlying43 rfl (by kernel_rfl)) rfl ?_
  exact ⟨rfl, ((Below.refl _ _).alloc (Nat.le_refl _) _).alloc (by rw [alloc1]; omega) _⟩

/-! ### Address, Good -/
def adOf (s : ByteArray) : Ad := ⟨s.data.getD 0 0, s.data.getD 1 0, s.data.getD 2 0, s.data.getD 3 0⟩
theorem adOf_s (x : Ad) : adOf x.s = x := rfl
theorem ad_of4 (s : ByteArray) (h : s.size = 4) : ∃ x : Ad, s = x.s := by
  obtain ⟨d⟩ := s
  have h' : d.size = 4 := h
  obtain ⟨l⟩ := d
  have h2 : l.length = 4 := h'
  match l, h2 with
  | [a, b, c, d], _ => exact ⟨⟨a, b, c, d⟩, rfl⟩
def adrS (l : List Opt) (k : Int) : Ad × Bool := match findO l k with
  | none => (Ad.z, false)
  | some o => if o.v.size = 4 then (adOf o.v, true) else (Ad.z, false)
def goodS (a b : Ad) : Bool := adE a b && !adE a Ad.z
theorem adz : (Value.agg #[.int .u8 0, .int .u8 0, .int .u8 0, .int .u8 0]) = Ad.z.v := rfl

set_option maxHeartbeats 2000000 in
set_option maxRecDepth 100000 in
theorem good_any (a b : Ad) (w : World) : Calls Try.prog 24 #[a.v, b.v] w fun e w' => e = .returned (.bool (goodS a b)) ∧ Below w.heap.size w w' := by
  have h1 := adEql a b
  have h2 := adNeq a Ad.z
  rw [← adz] at h2
  have HG := Lib.hid (show goodS a b = (adE a b && !adE a Ad.z) from rfl)
  unfold Ad.v at h1 h2
  unfold Ad.v
  generalize adE a b = x at *
  generalize adE a Ad.z = y at *
  generalize goodS a b = g at *
  cases x
  · go_enter Try.func24, Try.ntmps24
    go_wp2_with fail
    go_ret
    exact ⟨by rw [HG.out]; rfl, ((Below.refl _ _).alloc (Nat.le_refl _) _).alloc (by rw [alloc1]; omega) _⟩
  · go_enter Try.func24, Try.ntmps24
    go_wp2_with fail
    go_ret
    exact ⟨by rw [HG.out]; rfl, ((Below.refl _ _).alloc (Nat.le_refl _) _).alloc (by rw [alloc1]; omega) _⟩

theorem results_cell_tmp {P : Program} {fn : Func} {p t : Tmp} {ty : TypeId} (h : fn.results = #[.cell p ty, .tmp t]) (tmps : Array Value) (w : World) (g : Nat) (T : TypeId) (cs : Array Value) (fr : Nat × Nat) (d : TypeDesc)
    (hp : tmps.getD p undef = .pointer (some ⟨g, 0, none⟩)) (hg : w.heap[g]? = some (.cells cs T fr))
    (hu : P.underlying ty = some d) (hd : (match d with | .struct _ | .array _ _ => true | _ => false) = true) (hi : (P.info? ty).map (·.size) = some cs.size) :
    (results fn tmps).run P w = .ok (.tuple #[.agg cs, tmps.getD t undef]) w := by
  have hp' : tmps[p]?.getD undef = .pointer (some ⟨g, 0, none⟩) := by simpa using hp
  simp [results, h, hp', asAddr, run_loadVar_row w g T ty cs fr d hg hu hd hi]

set_option maxHeartbeats 4000000 in
set_option maxRecDepth 100000 in
theorem adr_any (l : List Opt) (lv : Value) (ok : Nat → Prop) (k : Int) (w : World) (hl : Opts w ok lv l) (hmax : l.length ≤ 1000000) (hv : ∀ o ∈ l, o.v.size ≤ 1000000000) :
    Calls Try.prog 22 #[lv, .int .i64 k] w fun e w' => e = .returned (.tuple #[(adrS l k).1.v, .bool (adrS l k).2]) ∧ Below w.heap.size w w' := by
  obtain ⟨sa, c, rfl, hc, hm⟩ := hl.form
  have hb0 := (Below.refl w.heap.size w).alloc (Nat.le_refl _) (.cells #[.int .u8 0, .int .u8 0, .int .u8 0, .int .u8 0] 49 (0, 0))
  have HF := Lib.hid (findO_any l _ ok k _ (hl.below hb0) hmax)
  have HX := Lib.hid (at1 w (.cells #[.int .u8 0, .int .u8 0, .int .u8 0, .int .u8 0] 49 (0, 0)))
  have HS := Lib.hid (alloc1 w (.cells #[.int .u8 0, .int .u8 0, .int .u8 0, .int .u8 0] 49 (0, 0)))
  have HB := Lib.hid hb0
  have hsv : ((findO l k).getD default).v.size ≤ 1000000000 := by
    cases h : findO l k with
    | none => show (ByteArray.mk #[]).size ≤ _; decide
    | some o => exact hv o (List.mem_of_find?_eq_some h)
  have hA : adrS l k = if (findO l k).isSome then (if ((findO l k).getD default).v.size = 4 then (adOf ((findO l k).getD default).v, true) else (Ad.z, false)) else (Ad.z, false) := by
    unfold adrS
    cases findO l k <;> simp
  have HA := Lib.hid hA
  generalize ((findO l k).getD default).v = s at HF HA hsv
  generalize (findO l k).isSome = y at HF HA
  generalize adrS l k = A at HA ⊢
  clear hl hb0 hA
  cases y with
  | false =>
    go_enter Try.func22, Try.ntmps22
    go_wp2_with (refine HF.out.mono ?_; rintro e w1 ⟨rfl, hb⟩
                 have hx := (hb.block w.heap.size (by rw [HS.out]; omega)).trans HX.out
                 have HX1 := Lib.hid hx
                 have z := fun o => fzOf hx o
                 have y0 : w1.cell? ⟨w.heap.size, 0, none⟩ = some (.int .u8 0) := cellOf hx 0 _ rfl
                 have y1 : w1.cell? ⟨w.heap.size, 1, none⟩ = some (.int .u8 0) := cellOf hx 1 _ rfl
                 have y2 : w1.cell? ⟨w.heap.size, 2, none⟩ = some (.int .u8 0) := cellOf hx 2 _ rfl
                 have y3 : w1.cell? ⟨w.heap.size, 3, none⟩ = some (.int .u8 0) := cellOf hx 3 _ rfl
                 have HB1 := Lib.hid hb
                 clear hb hx)
    refine bodyPost_ret (results_cell_tmp rfl _ _ w.heap.size 49 _ (0, 0) _ rfl (set4 HX1.out _ _ _ _) Try.underlying49 rfl addr_cells) rfl ?_
    refine ⟨by rw [HA.out]; rfl, (HB.out.trans (HB1.out.mono (by rw [HS.out]; omega))).trans ((keep4 w1 w.heap.size _ _ _ _).below (by have := HB1.out.size; rw [HS.out] at this; omega) (fun k hk he => by omega))⟩
  | true =>
    by_cases h4 : s.size = 4
    · obtain ⟨x, rfl⟩ := ad_of4 s h4
      clear h4 hsv
      have hat : ∀ b cap w, (Instr.arrayAt 49 (.slice (some ⟨b, 0, none⟩) 4 cap)).run Try.prog w = .ok (.pointer (some ⟨b, 0, none⟩)) w := fun b cap w => run_arrayAt w 49 _ 4 _ 4 cap Try.underlying49 (Nat.le_refl _)
      go_enter Try.func22, Try.ntmps22
      go_wp2_with fail
      refine HF.out.mono ?_
      rintro e w1 ⟨rfl, hb⟩
      have hx := (hb.block w.heap.size (by rw [HS.out]; omega)).trans HX.out
      obtain ⟨cap, hcap⟩ : ∃ cap, cap = grownCap w1 4 0 5 := ⟨_, rfl⟩
      have hcv0 := run_bytes_of_string (P := Try.prog) w1 9 82 5 x.s Try.underlying9 Try.underlying82 Try.underlying5
      rw [show grownCap w1 x.s.size 0 5 = cap from hcap.symm] at hcv0
      obtain ⟨w2, hw2⟩ : ∃ w2, w2 = w1.drew.alloc (.cells (bytesRow x.s cap) 5 ((bytesRow x.s cap).size, (bytesRow x.s cap).size + 1)) := ⟨_, rfl⟩
      have hcv : (convert 9 82 (.string x.s)).run Try.prog w1 = .ok (.slice (some ⟨w1.heap.size, 0, none⟩) 4 cap) w2 := by rw [hw2]; exact hcv0
      have hx2 : w2.heap[w1.heap.size]? = some (.cells (bytesRow x.s cap) 5 ((bytesRow x.s cap).size, (bytesRow x.s cap).size + 1)) := by rw [hw2]; exact at1 w1.drew _
      have e0 : w2.cell? ⟨w1.heap.size, 0, none⟩ = some (.int .u8 (x.a.toNat : Int)) := cellOf hx2 0 _ (bytesRow_at x.s cap 0 (by show 0 < 4; omega))
      have e1 : w2.cell? ⟨w1.heap.size, 1, none⟩ = some (.int .u8 (x.b.toNat : Int)) := cellOf hx2 1 _ (bytesRow_at x.s cap 1 (by show 1 < 4; omega))
      have e2 : w2.cell? ⟨w1.heap.size, 2, none⟩ = some (.int .u8 (x.c.toNat : Int)) := cellOf hx2 2 _ (bytesRow_at x.s cap 2 (by show 2 < 4; omega))
      have e3 : w2.cell? ⟨w1.heap.size, 3, none⟩ = some (.int .u8 (x.d.toNat : Int)) := cellOf hx2 3 _ (bytesRow_at x.s cap 3 (by show 3 < 4; omega))
      have hb2 : Below w1.heap.size w1 w2 := by rw [hw2]; exact (Below.refl _ _).drew.alloc (Nat.le_refl _) _
      have hx3 := (hb2.block w.heap.size (Array.getElem?_eq_some_iff.1 hx).1).trans hx
      have HX1 := Lib.hid hx3
      have z := fun o => fzOf hx3 o
      have y0 : w2.cell? ⟨w.heap.size, 0, none⟩ = some (.int .u8 0) := cellOf hx3 0 _ rfl
      have y1 : w2.cell? ⟨w.heap.size, 1, none⟩ = some (.int .u8 0) := cellOf hx3 1 _ rfl
      have y2 : w2.cell? ⟨w.heap.size, 2, none⟩ = some (.int .u8 0) := cellOf hx3 2 _ rfl
      have y3 : w2.cell? ⟨w.heap.size, 3, none⟩ = some (.int .u8 0) := cellOf hx3 3 _ rfl
      have HB1 := Lib.hid (hb.trans (hb2.mono hb.size))
      have hsz : x.s.size = 4 := rfl
      clear hb hx hb2 hx2 hx3 hcv0 hw2 hcap
      go_wp2_with fail
      refine bodyPost_ret (results_cell_tmp rfl _ _ w.heap.size 49 _ (0, 0) _ rfl (set4 HX1.out _ _ _ _) Try.underlying49 rfl addr_cells) rfl ?_
      refine ⟨by rw [HA.out]; rfl, (HB.out.trans (HB1.out.mono (by rw [HS.out]; omega))).trans ((keep4 w2 w.heap.size _ _ _ _).below (by have := HB1.out.size; rw [HS.out] at this; omega) (fun k hk he => by omega))⟩
    · have hq : A = (Ad.z, false) := by rw [HA.out, if_pos rfl, if_neg h4]
      subst hq
      have dz : ((s.size : Int) != 4) = true := by simp; omega
      clear h4
      go_enter Try.func22, Try.ntmps22
      go_wp2_with (refine HF.out.mono ?_; rintro e w1 ⟨rfl, hb⟩
                   have hx := (hb.block w.heap.size (by rw [HS.out]; omega)).trans HX.out
                   have HX1 := Lib.hid hx
                   have z := fun o => fzOf hx o
                   have y0 : w1.cell? ⟨w.heap.size, 0, none⟩ = some (.int .u8 0) := cellOf hx 0 _ rfl
                   have y1 : w1.cell? ⟨w.heap.size, 1, none⟩ = some (.int .u8 0) := cellOf hx 1 _ rfl
                   have y2 : w1.cell? ⟨w.heap.size, 2, none⟩ = some (.int .u8 0) := cellOf hx 2 _ rfl
                   have y3 : w1.cell? ⟨w.heap.size, 3, none⟩ = some (.int .u8 0) := cellOf hx 3 _ rfl
                   have HB1 := Lib.hid hb
                   clear hb hx)
      refine bodyPost_ret (results_cell_tmp rfl _ _ w.heap.size 49 _ (0, 0) _ rfl (set4 HX1.out _ _ _ _) Try.underlying49 rfl addr_cells) rfl ?_
      refine ⟨rfl, (HB.out.trans (HB1.out.mono (by rw [HS.out]; omega))).trans ((keep4 w1 w.heap.size _ _ _ _).below (by have := HB1.out.size; rw [HS.out] at this; omega) (fun k hk he => by omega))⟩
end Go.Proofs.Ytijepfjfmpmfnaa
