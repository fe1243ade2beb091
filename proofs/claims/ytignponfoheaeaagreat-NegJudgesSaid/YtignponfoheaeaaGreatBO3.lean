import Derived.Test.YtignponfoheaeaaGreatB3
import Derived.Test.YtignponfoheaeaaGreatV28
/- Options of a book. -/
namespace Go.Proofs.YtignponfoheaeaaGreat
open Go.RowKit Go.Tg Go.Maps

def nameS (i k : Nat) : ByteArray := ⟨#[109, UInt8.ofNat (65 + i % 26), UInt8.ofNat (65 + i / 26 % 26), UInt8.ofNat (48 + k % 10), UInt8.ofNat (48 + k / 10 % 10), UInt8.ofNat (48 + k / 100 % 10)]⟩

set_option maxHeartbeats 4000000 in
set_option maxRecDepth 100000 in
theorem name_any (i k : Nat) (hi : i ≤ 250) (hk : k ≤ 400000) (w : World) :
    Calls Tryz.prog 242 #[.int .i64 i, .int .i64 k] w fun e w' => e = .returned (.string (nameS i k)) ∧ Below w.heap.size w w' := by
  have hcv : (convert 200 9 (.slice (some ⟨w.heap.size, 0, none⟩) 6 6)).run Tryz.prog (w.alloc (.cells #[.int .u8 109, .int .u8 (65 + (i : Int) % 26), .int .u8 (65 + (i : Int) / 26 % 26), .int .u8 (48 + (k : Int) % 10), .int .u8 (48 + (k : Int) / 10 % 10), .int .u8 (48 + (k : Int) / 100 % 10)] 5 (0, 0))) =
      .ok (.string (nameS i k)) (w.alloc (.cells #[.int .u8 109, .int .u8 (65 + (i : Int) % 26), .int .u8 (65 + (i : Int) / 26 % 26), .int .u8 (48 + (k : Int) % 10), .int .u8 (48 + (k : Int) / 10 % 10), .int .u8 (48 + (k : Int) / 100 % 10)] 5 (0, 0))) := by
    have hx := at1 w (.cells #[.int .u8 109, .int .u8 (65 + (i : Int) % 26), .int .u8 (65 + (i : Int) / 26 % 26), .int .u8 (48 + (k : Int) % 10), .int .u8 (48 + (k : Int) / 10 % 10), .int .u8 (48 + (k : Int) / 100 % 10)] 5 (0, 0))
    refine run_convert_bytes_back (P := Tryz.prog) _ 200 9 5 ⟨w.heap.size, 0, none⟩ 6 [109, UInt8.ofNat (65 + i % 26), UInt8.ofNat (65 + i / 26 % 26), UInt8.ofNat (48 + k % 10), UInt8.ofNat (48 + k / 10 % 10), UInt8.ofNat (48 + k / 100 % 10)] Tryz.underlying200 Tryz.underlying5 Tryz.underlying9 (fun j hj => ?_)
    rw [Addr.add_lit, Nat.zero_add]
    have e1 : ((UInt8.ofNat (65 + i % 26)).toNat : Int) = 65 + (i : Int) % 26 := by rw [UInt8.toNat_ofNat']; omega
    have e2 : ((UInt8.ofNat (65 + i / 26 % 26)).toNat : Int) = 65 + (i : Int) / 26 % 26 := by rw [UInt8.toNat_ofNat']; omega
    have e3 : ((UInt8.ofNat (48 + k % 10)).toNat : Int) = 48 + (k : Int) % 10 := by rw [UInt8.toNat_ofNat']; omega
    have e4 : ((UInt8.ofNat (48 + k / 10 % 10)).toNat : Int) = 48 + (k : Int) / 10 % 10 := by rw [UInt8.toNat_ofNat']; omega
    have e5 : ((UInt8.ofNat (48 + k / 100 % 10)).toNat : Int) = 48 + (k : Int) / 100 % 10 := by rw [UInt8.toNat_ofNat']; omega
    match j, hj with
    | 0, _ => exact cellOf hx 0 _ (by simp)
    | 1, _ => simp only [List.getElem_cons_zero, List.getElem_cons_succ]; rw [e1]; exact cellOf hx 1 _ (by simp)
    | 2, _ => simp only [List.getElem_cons_zero, List.getElem_cons_succ]; rw [e2]; exact cellOf hx 2 _ (by simp)
    | 3, _ => simp only [List.getElem_cons_zero, List.getElem_cons_succ]; rw [e3]; exact cellOf hx 3 _ (by simp)
    | 4, _ => simp only [List.getElem_cons_zero, List.getElem_cons_succ]; rw [e4]; exact cellOf hx 4 _ (by simp)
    | 5, _ => simp only [List.getElem_cons_zero, List.getElem_cons_succ]; rw [e5]; exact cellOf hx 5 _ (by simp)
  go_enter Tryz.func242, Tryz.ntmps242
  go_wp2_with fail
  go_ret
  exact ⟨rfl, (Below.refl _ _).alloc (Nat.le_refl _) _⟩

def mkO (i j : Nat) : List Value := [.int .i64 (-1 - (i : Int)), .string (nameS i j)]
theorem mkO_len (i j : Nat) : (mkO i j).length = 2 := rfl
theorem mkO_one (i j : Nat) : ∀ u ∈ mkO i j, u.oneCell' = true := by
  intro u hu
  simp only [mkO, List.mem_cons, List.not_mem_nil, or_false] at hu
  rcases hu with rfl | rfl <;> rfl
def oV (l : List Opt) : List Value := (optL l).flatten
theorem oV_len (l : List Opt) : (oV l).length = l.length * 2 := by
  unfold oV
  rw [flatten_len _ (optL_k l), optL_len]
theorem oV_app (a b : List Opt) : oV (a ++ b) = oV a ++ oV b := by simp [oV, optL]
theorem oV_one (l : List Opt) : ∀ u ∈ oV l, u.oneCell' = true := by
  intro u hu
  simp only [oV, List.mem_flatten, optL, List.mem_map] at hu
  obtain ⟨_, ⟨o, _, rfl⟩, hu⟩ := hu
  simp only [Opt.cells, List.mem_cons, List.not_mem_nil, or_false] at hu
  rcases hu with rfl | rfl <;> rfl
theorem oV_at : ∀ (xs : List Opt) (j : Nat) (h : j < xs.length), (oV xs)[j * 2]? = some (.int .i64 xs[j].t) ∧ (oV xs)[j * 2 + 1]? = some (.string xs[j].v) := by
  intro xs
  induction xs with
  | nil => intro j h; exact absurd h (Nat.not_lt_zero _)
  | cons x xs ih =>
    intro j h
    have e : oV (x :: xs) = .int .i64 x.t :: .string x.v :: oV xs := rfl
    rw [e]
    cases j with
    | zero => exact ⟨rfl, rfl⟩
    | succ j =>
      have := ih j (by simpa using h)
      rw [show (j + 1) * 2 = j * 2 + 2 by omega]
      exact this
theorem opt_row : RowT Tryz.prog 62 91 2 24 where
  ht := Tryz.underlying62
  hi := by
    have h : (Tryz.prog.info? 91).map (fun i => (i.zero, i.size, i.bytes)) = some (some (.agg #[.int .i64 0, .string ⟨#[]⟩]), 2, 24) := by kernel_rfl
    obtain ⟨i, hi, he⟩ := Option.map_eq_some_iff.1 h
    simp only [Prod.mk.injEq] at he
    exact ⟨i, _, hi, he.1, he.2.1, he.2.2, rfl⟩
  hk := by decide
  hb := by decide
theorem opts_row : RowT Tryz.prog 27 62 1 24 where
  ht := Tryz.underlying27
  hi := by
    have h : (Tryz.prog.info? 62).map (fun i => (i.zero, i.size, i.bytes)) = some (some (.slice none 0 0), 1, 24) := by kernel_rfl
    obtain ⟨i, hi, he⟩ := Option.map_eq_some_iff.1 h
    simp only [Prod.mk.injEq] at he
    exact ⟨i, _, hi, he.1, he.2.1, he.2.2, rfl⟩
  hk := by decide
  hb := by decide

set_option maxHeartbeats 4000000 in
set_option maxRecDepth 100000 in
theorem markO_any (i f n : Nat) (hi : i ≤ 250) (hf : f ≤ 200000) (hn : n ≤ 200000) (w : World) :
    Calls Tryz.prog 207 #[.int .i64 i, .int .i64 f, .int .i64 n] w fun e w' => ∃ v, e = .returned v ∧ Laid 91 2 w w' v n (marksC mkO i f n) := by
  go_enter Tryz.func207, Tryz.ntmps207
  go_wp2_with fail
  go_loopg [7, 8] n (fun x out kk wr => ∃ j : Nat, j ≤ n ∧ x = n - j ∧ kk = .int .i64 ((f + j : Nat) : Int) ∧ Hid (Laid 91 2 w wr out j (marksC mkO i f j)))
  case atStart => exact ⟨0, by omega, by omega, rfl, BRow.nil _ _ _, Below.refl _ _, fun g h => by cases h⟩
  case round =>
    obtain ⟨j, hj, rfl, rfl, hK⟩ := hrel
    have HK := Lib.hid hK.out
    clear hK
    obtain ⟨so, co, eo, -, -⟩ := HK.out.r.form
    subst eo
    by_cases hjn : j < n
    · have hv : wrap64 (-1 - (i : Int)) = -1 - (i : Int) := by
        unfold wrap64; omega
      go_wp2_with (first
        | (go_at_call 242; refine (name_any i (f + j) hi (by omega) _).mono ?_
           rintro e w2 ⟨rfl, h2⟩
           have H2 := Lib.hid h2
           clear h2)
        | (at_builtin; refine wpl_append_rec opt_row rfl _ _ rfl _ j (marksC mkO i f j) rfl (HK.out.r.below (H2.out.trans ((b1 _ _).mono H2.out.size))) _ _ (mkO i (f + j)) rfl (cell_of_at _ _ _ rfl) rfl (mkO_one _ _) (by omega) ?_
           intro g cap w6 h6 k6 o6
           have H6 := Lib.hid (And.intro h6 (And.intro k6 o6))
           clear h6 k6 o6))
      go_roundg (n - (j + 1))
      case measure => omega
      case rel =>
        refine ⟨j + 1, by omega, rfl, by go_num, ?_⟩
        rw [marksC_snoc]
        exact HK.out.app (H2.out.trans ((b1 _ _).mono H2.out.size)) H6.out.1 H6.out.2.1 (H6.out.2.2.imp (fun h => h.symm) (fun h => by rw [h]; rfl))
    · obtain rfl : n = j := by omega
      go_wp2_with fail
      go_ret
      exact ⟨_, rfl, HK.out⟩

set_option maxHeartbeats 4000000 in
set_option maxRecDepth 100000 in
theorem copyO_any (v : Value) (n : Nat) (us : List Value) (w : World) (hr : RowR w v n us) (hnil : ∀ n c, v = .slice none n c → c = 0) (hul : us.length = n * 2) (h1 : ∀ u ∈ us, u.oneCell' = true) (hlen : n ≤ 1000000) :
    Calls Tryz.prog 155 #[v] w fun e w' => ∃ v', e = .returned v' ∧ Laid 91 2 w w' v' n us := by
  obtain ⟨sa, c, rfl, hc, hm⟩ := hr.form
  have H := Lib.hid (And.intro hr (And.intro hnil (And.intro hul h1)))
  clear hr hnil hul h1
  go_enter Tryz.func155, Tryz.ntmps155
  go_wp2_with (at_builtin; refine wpl_append_row opt_row rfl _ _ rfl _ 0 [] rfl (BRow.nil _ _ _) _ n us rfl H.out.1 H.out.2.1 H.out.2.2.1 H.out.2.2.2 (by omega) ?_
               intro v6 w6 h6 o6 k6 p6
               have H6 := Lib.hid (And.intro h6 (And.intro k6 p6))
               clear h6 o6 k6 p6)
  go_ret
  have h6 := H6.out.1
  rw [Nat.zero_add, List.nil_append] at h6
  exact ⟨_, rfl, Laid.app (T := 91) (k := 2) (w := w) ⟨BRow.nil _ _ _, Below.refl _ _, fun g h => by cases h⟩ (Below.refl _ _) h6 H6.out.2.1 H6.out.2.2⟩

/-- The cells of a row of options. -/
theorem RowR_opt {w : World} {sa : Option Addr} {m c n : Nat} {xs : List Opt} (h : RowR w (.slice sa m c) n (oV xs)) (j : Nat) (hj : j < xs.length) :
    ∃ g, sa = some ⟨g, 0, none⟩ ∧ g < w.heap.size ∧ w.cell? ⟨g, j * 2, none⟩ = some (.int .i64 xs[j].t) ∧ w.cell? ⟨g, j * 2 + 1, none⟩ = some (.string xs[j].v) := by
  obtain ⟨h0, h1⟩ := oV_at xs j hj
  obtain ⟨g, e1, e2, e3⟩ := h.get h0
  obtain ⟨g', e1', e2', e3'⟩ := h.get h1
  rw [e1] at e1'
  cases e1'
  exact ⟨g, e1, e2, e3, e3'⟩

theorem eqOb (a b : Int) (s t : ByteArray) (w : World) : (binOp .eql 91 (.agg #[.int .i64 a, .string s]) (.agg #[.int .i64 b, .string t])).run Tryz.prog w = .ok (.bool (decide (a = b) && decide (s = t))) w := by
  have u3 := Tryz.underlying3
  have a3 := Tryz.isAgg3
  have z3 := Tryz.sizeOf3
  have u9 := Tryz.underlying9
  have a9 := Tryz.isAgg9
  have z9 := Tryz.sizeOf9
  have hS : Tryz.prog.underlying 91 = some (.struct (Tryz.prog.fieldsOf 91)) := by kernel_rfl
  have hp : Tryz.prog.stoodInHeld 91 = false := by kernel_rfl
  rw [run_eql_struct, show (10000 : Nat) = 9999 + 1 from rfl, run_equalIn_agg w 9999 91 _ _ hS hp]
  simp only [Program.fieldsOf, Tryz.underlying91]
  go_simp
  by_cases h1 : a = b <;> by_cases h2 : s = t <;> simp [h1, h2]
  intro h
  rw [ByteArray.toList_eq, ByteArray.toList_eq] at h
  exact h2 (ByteArray.ext (Array.ext' h))

set_option maxHeartbeats 4000000 in
set_option maxRecDepth 100000 in
/-- Are two lists of options the same? -/
theorem sameO_any (xs ys : List Opt) (a b : Value) (w : World) (ha : RowR w a xs.length (oV xs)) (hb : RowR w b ys.length (oV ys)) (hl : xs.length ≤ 1000000) (hl' : ys.length ≤ 1000000) :
    Calls Tryz.prog 30 #[a, b] w fun e w' => (∃ y : Bool, e = .returned (.bool y) ∧ (y = true ↔ xs = ys)) ∧ Below w.heap.size w w' := by
  obtain ⟨sa, c, rfl, hc, hm⟩ := ha.form
  obtain ⟨sb, d, rfl, hd, hn⟩ := hb.form
  by_cases hxy : xs.length = ys.length
  case neg =>
    have H : Hid (∀ y : Bool, y = false → (y = true ↔ xs = ys)) := Lib.hid (fun y h => ⟨fun h1 => absurd (h1.symm.trans h) (by decide), fun h1 => absurd (by rw [h1]) hxy⟩)
    clear ha hb
    generalize xs.length = n1 at *
    generalize ys.length = n2 at *
    go_enter Tryz.func30, Tryz.ntmps30
    go_wp2_with fail
    go_ret
    exact ⟨⟨_, rfl, H.out _ rfl⟩, Below.refl _ _⟩
  case pos =>
  rw [← hxy] at hb hd hl' ⊢
  obtain ⟨len, hln⟩ : ∃ len, len = xs.length := ⟨_, rfl⟩
  have HLN := Lib.hid (And.intro hln hxy)
  rw [← hln] at ha hb hc hd hl ⊢
  have H := Lib.hid (And.intro ha hb)
  clear hln ha hb hxy hl'
  go_enter Tryz.func30, Tryz.ntmps30
  go_wp2_with fail
  go_loopg [5] len (fun x i wr => ∃ k : Nat, k ≤ len ∧ x = len - k ∧ i = .int .i64 k ∧ Hid (Below w.heap.size w wr ∧ ∀ j (h1 : j < xs.length) (h2 : j < ys.length), j < k → xs[j] = ys[j]))
  case atStart => exact ⟨0, by omega, by omega, rfl, Below.refl _ _, fun j _ _ h => absurd h (Nat.not_lt_zero _)⟩
  case round =>
    obtain ⟨k, hk, rfl, rfl, hK⟩ := hrel
    have HK := Lib.hid hK.out
    clear hK
    by_cases hkl : k < len
    · have h1 : k < xs.length := by have := HLN.out.1; omega
      have h2 : k < ys.length := by have := HLN.out.2; omega
      obtain ⟨g, rfl, hg, c0, c1⟩ := RowR_opt H.out.1 k h1
      obtain ⟨g', rfl, hg', c2, c3⟩ := RowR_opt H.out.2 k h2
      have d0 : wr.cell? ⟨g, k * 2, none⟩ = _ := (HK.out.1.cell (p := ⟨g, k * 2, none⟩) hg).trans c0
      have d1 : wr.cell? ⟨g, k * 2 + 1, none⟩ = _ := (HK.out.1.cell (p := ⟨g, k * 2 + 1, none⟩) hg).trans c1
      have d2 : wr.cell? ⟨g', k * 2, none⟩ = _ := (HK.out.1.cell (p := ⟨g', k * 2, none⟩) hg').trans c2
      have d3 : wr.cell? ⟨g', k * 2 + 1, none⟩ = _ := (HK.out.1.cell (p := ⟨g', k * 2 + 1, none⟩) hg').trans c3
      have HEQ : Hid (∀ y : Bool, (y = true ↔ (xs[k].t = ys[k].t ∧ xs[k].v = ys[k].v)) → (y = true → xs[k] = ys[k]) ∧ (y = false → ∀ y' : Bool, y' = false → (y' = true ↔ xs = ys))) := Lib.hid (by
        intro y hy
        refine ⟨fun h => ?_, fun h y' hy' => ⟨fun h3 => absurd (h3.symm.trans hy') (by decide), fun h3 => ?_⟩⟩
        · obtain ⟨e1, e2⟩ := hy.1 h
          generalize xs[k] = x at *
          generalize ys[k] = z at *
          obtain ⟨x1, x2⟩ := x; obtain ⟨z1, z2⟩ := z
          simp only at e1 e2
          rw [e1, e2]
        · subst h3
          exact absurd ((hy.2 ⟨rfl, rfl⟩).symm.trans h) (by decide))
      clear c0 c1 c2 c3
      generalize hx0 : xs[k].t = t at d0 HEQ
      generalize hx1 : xs[k].v = v at d1 HEQ
      generalize hx2 : ys[k].t = t' at d2 HEQ
      generalize hx3 : ys[k].v = v' at d3 HEQ
      obtain ⟨y, hy⟩ : ∃ y : Bool, y = (decide (t = t') && decide (v = v')) := ⟨_, rfl⟩
      have HE := Lib.hid (HEQ.out y (by rw [hy]; simp))
      have hn : ∀ w, (binOp .eql 91 (.agg #[.int .i64 t, .string v]) (.agg #[.int .i64 t', .string v'])).run Tryz.prog w = .ok (.bool y) w := fun w => by rw [eqOb, hy]
      clear hy hx0 hx1 hx2 hx3 HEQ
      cases y with
      | true =>
        go_wp2_with fail
        go_quiet (fail)
        go_wp2_with fail
        go_roundg (len - (k + 1))
        case measure => omega
        case rel =>
          refine ⟨k + 1, by omega, rfl, by go_num, ⟨HK.out.1.os, HK.out.1.tape, HK.out.1.output, HK.out.1.size, HK.out.1.block⟩, fun j h3 h4 h5 => ?_⟩
          rcases Nat.lt_or_ge j k with h | h
          · exact HK.out.2 j h3 h4 h
          · obtain rfl : j = k := by omega
            exact HE.out.1 (by first | exact trivial | rfl)
      | false =>
        go_wp2_with fail
        go_quiet (fail)
        go_wp2_with fail
        go_ret
        exact ⟨⟨_, rfl, HE.out.2 (by first | exact trivial | rfl) _ rfl⟩, ⟨HK.out.1.os, HK.out.1.tape, HK.out.1.output, HK.out.1.size, HK.out.1.block⟩⟩
    · go_wp2_with fail
      go_ret
      refine ⟨⟨_, rfl, fun _ => ?_, fun _ => rfl⟩, HK.out.1⟩
      have e1 := HLN.out.1
      have e2 := HLN.out.2
      exact List.ext_getElem e2 fun j h3 h4 => HK.out.2 j h3 h4 (by omega)
theorem sameO_true (xs : List Opt) (a b : Value) (w : World) (ha : RowR w a xs.length (oV xs)) (hb : RowR w b xs.length (oV xs)) (hl : xs.length ≤ 1000000) :
    Calls Tryz.prog 30 #[a, b] w fun e w' => e = .returned (.bool true) ∧ Below w.heap.size w w' :=
  (sameO_any xs xs a b w ha hb hl hl).mono fun e w' ⟨⟨y, he, hy⟩, hb⟩ => ⟨by rw [he, hy.2 rfl], hb⟩

def mlistO (i f n : Nat) : List Opt := (List.range n).map fun (j : Nat) => ⟨-1 - (i : Int), nameS i (f + j)⟩
theorem mlistO_len (i f n : Nat) : (mlistO i f n).length = n := by simp [mlistO]
theorem mlistO_V (i f n : Nat) : marksC mkO i f n = oV (mlistO i f n) := by
  induction n with
  | zero => rfl
  | succ n ih => rw [marksC_snoc, ih]; simp [mlistO, List.range_succ, oV, optL, mkO, Opt.cells]
end Go.Proofs.YtignponfoheaeaaGreat
