import Derived.Test.YtignponfoheaeaaGreatB2
import Derived.Test.YtignponfoheaeaaGreatTab4
import Derived.Test.YtignponfoheaeaaGreatTgHeld3
import Derived.Lib.QuietBelow
/- Ints of a book. -/
namespace Go.Proofs.YtignponfoheaeaaGreat
open Go.RowKit Go.Tg Go.Maps

def iV (l : List Int) : List Value := l.map (Value.int .i64)
theorem iV_len (l : List Int) : (iV l).length = l.length := by simp [iV]
theorem iV_app (a b : List Int) : iV (a ++ b) = iV a ++ iV b := by simp [iV]
theorem iV_one (l : List Int) : ∀ u ∈ iV l, u.oneCell' = true := by
  intro u hu
  obtain ⟨x, _, rfl⟩ := List.mem_map.1 hu
  rfl
theorem iV_inj : ∀ {a b : List Int}, iV a = iV b → a = b := by
  intro a
  induction a with
  | nil => intro b h; cases b with
    | nil => rfl
    | cons y b => cases h
  | cons x a ih => intro b h; cases b with
    | nil => cases h
    | cons y b =>
      simp only [iV, List.map_cons, List.cons.injEq, Value.int.injEq, true_and] at h
      rw [h.1, ih h.2]
def mkI (i j : Nat) : List Value := [.int .i64 (-1000000 * (i : Int) - (j : Int) - 7)]
theorem mkI_len (i j : Nat) : (mkI i j).length = 1 := rfl
theorem mkI_one (i j : Nat) : ∀ u ∈ mkI i j, u.oneCell' = true := by
  intro u hu
  simp only [mkI, List.mem_singleton] at hu
  subst hu; rfl
theorem int_row : RowT Tryz.prog 43 3 1 8 where
  ht := Tryz.underlying43
  hi := by
    have h : (Tryz.prog.info? 3).map (fun i => (i.zero, i.size, i.bytes)) = some (some (.int .i64 0), 1, 8) := by kernel_rfl
    obtain ⟨i, hi, he⟩ := Option.map_eq_some_iff.1 h
    simp only [Prod.mk.injEq] at he
    exact ⟨i, _, hi, he.1, he.2.1, he.2.2, rfl⟩
  hk := by decide
  hb := by decide
theorem ints_row : RowT Tryz.prog 24 43 1 24 where
  ht := Tryz.underlying24
  hi := by
    have h : (Tryz.prog.info? 43).map (fun i => (i.zero, i.size, i.bytes)) = some (some (.slice none 0 0), 1, 24) := by kernel_rfl
    obtain ⟨i, hi, he⟩ := Option.map_eq_some_iff.1 h
    simp only [Prod.mk.injEq] at he
    exact ⟨i, _, hi, he.1, he.2.1, he.2.2, rfl⟩
  hk := by decide
  hb := by decide

/-- A row that was laid since. -/
structure Laid (T : TypeId) (k : Nat) (w w' : World) (v : Value) (n : Nat) (us : List Value) : Prop where
  r : BRow T k w' v n us
  b : Below w.heap.size w w'
  f : ∀ g, v.ownBlock = some g → w.heap.size ≤ g

theorem Laid.app {T : TypeId} {k : Nat} {w wr w1 w6 : World} {u v' : Value} {n n' : Nat} {us us' : List Value} (h : Laid T k w wr u n us) (hb : Below wr.heap.size wr w1) (hr : BRow T k w6 v' n' us') (hk : Keep (fun b => u.ownBlock = some b) w1 w6)
    (ho : v'.ownBlock = u.ownBlock ∨ v'.ownBlock = some w1.heap.size) : Laid T k w w6 v' n' us' where
  r := hr
  b := (h.b.trans (hb.mono h.b.size)).trans (hk.below (Nat.le_trans h.b.size hb.size) (fun b hb he => by have := h.f b he; omega))
  f := fun g hg => by
    rcases ho with ho | ho
    · rw [ho] at hg; exact h.f g hg
    · rw [ho] at hg; cases hg; exact Nat.le_trans h.b.size hb.size
theorem Laid.below {T : TypeId} {k : Nat} {w wr w1 : World} {u : Value} {n : Nat} {us : List Value} (h : Laid T k w wr u n us) (hb : Below wr.heap.size wr w1) : Laid T k w w1 u n us := ⟨h.r.below hb, h.b.trans (hb.mono h.b.size), h.f⟩
theorem cell_of_at (w : World) (o : Obj) (g : Nat) (h : g = w.heap.size) : (w.alloc o).heap[g]? = some o := by subst h; exact heap_alloc_new w o

theorem balloc1 (w : World) (o : Obj) : (w.alloc o).heap.size = w.heap.size + 1 := Array.size_push ..
theorem b1 (w : World) (o : Obj) : Below w.heap.size w (w.alloc o) := (Below.refl _ _).alloc (Nat.le_refl _) o

set_option maxHeartbeats 4000000 in
set_option maxRecDepth 100000 in
theorem markI_any (i f n : Nat) (hi : i ≤ 250) (hf : f ≤ 200000) (hn : n ≤ 200000) (w : World) :
    Calls Tryz.prog 204 #[.int .i64 i, .int .i64 f, .int .i64 n] w fun e w' => ∃ v, e = .returned v ∧ Laid 3 1 w w' v n (marksC mkI i f n) := by
  go_enter Tryz.func204, Tryz.ntmps204
  go_wp2_with fail
  go_loopg [7, 8] n (fun x out kk wr => ∃ j : Nat, j ≤ n ∧ x = n - j ∧ kk = .int .i64 ((f + j : Nat) : Int) ∧ Hid (Laid 3 1 w wr out j (marksC mkI i f j)))
  case atStart => exact ⟨0, by omega, by omega, rfl, BRow.nil _ _ _, Below.refl _ _, fun g h => by cases h⟩
  case round =>
    obtain ⟨j, hj, rfl, rfl, hK⟩ := hrel
    have HK := Lib.hid hK.out
    clear hK
    by_cases hjn : j < n
    · have hv : wrap64 (wrap64 (wrap64 (-1000000 * (i : Int)) - ((f + j : Nat) : Int)) - 7) = -1000000 * (i : Int) - ((f + j : Nat) : Int) - 7 := by
        unfold wrap64; omega
      have HL := HK.out.b.size
      go_wp2_with (at_builtin; refine wpl_append_rec int_row rfl _ _ rfl _ j (marksC mkI i f j) rfl (HK.out.r.below (b1 _ _)) _ _ (mkI i (f + j)) rfl (cell_of_at _ _ _ rfl) rfl (mkI_one _ _) (by omega) ?_
                   intro g cap w6 h6 k6 o6
                   have H6 := Lib.hid (And.intro h6 (And.intro k6 o6))
                   clear h6 k6 o6)
      go_roundg (n - (j + 1))
      case measure => omega
      case rel =>
        refine ⟨j + 1, by omega, rfl, by go_num, ?_⟩
        rw [marksC_snoc]
        exact HK.out.app (b1 _ _) H6.out.1 H6.out.2.1 (H6.out.2.2.imp (fun h => h.symm) (fun h => by rw [h]; rfl))
    · obtain rfl : n = j := by omega
      go_wp2_with fail
      go_ret
      exact ⟨_, rfl, HK.out⟩

set_option maxHeartbeats 4000000 in
set_option maxRecDepth 100000 in
theorem copyI_any (v : Value) (n : Nat) (us : List Value) (w : World) (hr : RowR w v n us) (hnil : ∀ n c, v = .slice none n c → c = 0) (hul : us.length = n * 1) (h1 : ∀ u ∈ us, u.oneCell' = true) (hlen : n ≤ 1000000) :
    Calls Tryz.prog 67 #[v] w fun e w' => ∃ v', e = .returned v' ∧ Laid 3 1 w w' v' n us := by
  obtain ⟨sa, c, rfl, hc, hm⟩ := hr.form
  have H := Lib.hid (And.intro hr (And.intro hnil (And.intro hul h1)))
  clear hr hnil hul h1
  go_enter Tryz.func67, Tryz.ntmps67
  go_wp2_with (at_builtin; refine wpl_append_row int_row rfl _ _ rfl _ 0 [] rfl (BRow.nil _ _ _) _ n us rfl H.out.1 H.out.2.1 H.out.2.2.1 H.out.2.2.2 (by omega) ?_
               intro v6 w6 h6 o6 k6 p6
               have H6 := Lib.hid (And.intro h6 (And.intro k6 p6))
               clear h6 o6 k6 p6)
  go_ret
  have h6 := H6.out.1
  rw [Nat.zero_add, List.nil_append] at h6
  exact ⟨_, rfl, Laid.app (T := 3) (k := 1) (w := w) ⟨BRow.nil _ _ _, Below.refl _ _, fun g h => by cases h⟩ (Below.refl _ _) h6 H6.out.2.1 H6.out.2.2⟩

theorem iV_at (xs : List Int) (j : Nat) (h : j < xs.length) : (iV xs)[j]? = some (.int .i64 xs[j]) := by simp [iV, h]
/-- The cell of a row of ints. -/
theorem RowR_int {w : World} {sa : Option Addr} {m c n : Nat} {xs : List Int} (h : RowR w (.slice sa m c) n (iV xs)) (j : Nat) (hj : j < xs.length) : ∃ g, sa = some ⟨g, 0, none⟩ ∧ g < w.heap.size ∧ w.cell? ⟨g, j, none⟩ = some (.int .i64 xs[j]) := by
  obtain ⟨g, h1, h2, h3⟩ := h.at j (by rw [iV_len]; exact hj)
  refine ⟨g, h1, h2, h3.trans ?_⟩
  have := iV_at xs j hj
  rw [List.getElem?_eq_getElem (by rw [iV_len]; exact hj)] at this
  exact this

set_option maxHeartbeats 4000000 in
set_option maxRecDepth 100000 in
theorem sameI_true (xs : List Int) (a b : Value) (w : World) (ha : RowR w a xs.length (iV xs)) (hb : RowR w b xs.length (iV xs)) (hl : xs.length ≤ 1000000) :
    Calls Tryz.prog 10 #[a, b] w fun e w' => e = .returned (.bool true) ∧ Below w.heap.size w w' := by
  obtain ⟨sa, c, rfl, hc, hm⟩ := ha.form
  obtain ⟨sb, d, rfl, hd, hn⟩ := hb.form
  obtain ⟨len, hln⟩ : ∃ len, len = xs.length := ⟨_, rfl⟩
  have HLN := Lib.hid hln
  rw [← hln] at ha hb hc hd hl ⊢
  have H := Lib.hid (And.intro ha hb)
  clear hln ha hb
  go_enter Tryz.func10, Tryz.ntmps10
  go_wp2_with fail
  go_loopg [5] len (fun x i wr => ∃ k : Nat, k ≤ len ∧ x = len - k ∧ i = .int .i64 k ∧ Hid (Below w.heap.size w wr))
  case atStart => exact ⟨0, by omega, by omega, rfl, Below.refl _ _⟩
  case round =>
    obtain ⟨k, hk, rfl, rfl, hK⟩ := hrel
    have HK := Lib.hid hK.out
    clear hK
    by_cases hkl : k < len
    · have h1 : k < xs.length := by have := HLN.out; omega
      obtain ⟨g, rfl, hg, c0⟩ := RowR_int H.out.1 k h1
      obtain ⟨g', rfl, hg', c1⟩ := RowR_int H.out.2 k h1
      have d0 : wr.cell? ⟨g, k, none⟩ = _ := (HK.out.cell (p := ⟨g, k, none⟩) hg).trans c0
      have d1 : wr.cell? ⟨g', k, none⟩ = _ := (HK.out.cell (p := ⟨g', k, none⟩) hg').trans c1
      clear c0 c1
      generalize xs[k] = x at *
      go_wp2_with fail
      go_quiet (fail)
      go_wp2_with fail
      go_roundg (len - (k + 1))
      case measure => omega
      case rel => exact ⟨k + 1, by omega, rfl, by go_num, ⟨HK.out.os, HK.out.tape, HK.out.output, HK.out.size, HK.out.block⟩⟩
    · go_wp2_with fail
      go_ret
      exact ⟨rfl, HK.out⟩

def mlist (i f n : Nat) : List Int := (List.range n).map fun (j : Nat) => -1000000 * (i : Int) - ((f + j : Nat) : Int) - 7
theorem mlist_len (i f n : Nat) : (mlist i f n).length = n := by simp [mlist]
theorem mlist_V (i f n : Nat) : marksC mkI i f n = iV (mlist i f n) := by
  induction n with
  | zero => rfl
  | succ n ih => rw [marksC_snoc, ih]; simp [mlist, List.range_succ, iV, mkI]

set_option maxHeartbeats 4000000 in
set_option maxRecDepth 100000 in
theorem markedI_any (l : Value) (n : Nat) (G : Nat → Value) (m : Nat → Nat) (w : World) (hl : RowR w l n ((List.range n).map G)) (hn : n ≤ 250) (hG : ∀ i, i < n → RowR w (G i) (m i) (marksC mkI i 0 (m i)) ∧ m i ≤ 200000) :
    Calls Tryz.prog 123 #[l] w fun e w' => e = .returned (.bool true) ∧ Below w.heap.size w w' := by
  obtain ⟨sa, c, rfl, hc, hm⟩ := hl.form
  have H := Lib.hid (And.intro hl hG)
  clear hl hG
  go_enter Tryz.func123, Tryz.ntmps123
  go_wp2_with fail
  go_loopg [3] n (fun x i wr => ∃ k : Nat, k ≤ n ∧ x = n - k ∧ i = .int .i64 k ∧ Hid (Below w.heap.size w wr))
  case atStart => exact ⟨0, by omega, by omega, rfl, Below.refl _ _⟩
  case round =>
    obtain ⟨k, hk, rfl, rfl, hK⟩ := hrel
    have HK := Lib.hid hK.out
    clear hK
    by_cases hkn : k < n
    · obtain ⟨g, rfl, hg, c0⟩ := H.out.1.at k (by simpa using hkn)
      simp only [List.getElem_map, List.getElem_range] at c0
      obtain ⟨hr, hmk⟩ := H.out.2 k hkn
      generalize hGk : G k = x at *
      obtain ⟨sk, ck, rfl, hck, hcm⟩ := hr.form
      have HS : Hid (∀ W, Below wr.heap.size wr W → W.cell? ⟨g, k, none⟩ = some (.slice sk (m k) ck)) := Lib.hid fun W hW => (hW.cell (p := ⟨g, k, none⟩) (Nat.lt_of_lt_of_le hg HK.out.size)).trans ((HK.out.cell (p := ⟨g, k, none⟩) hg).trans c0)
      have HR := Lib.hid (hr.below HK.out)
      clear hr c0
      generalize m k = mk at *
      go_wp2_with fail
      refine wp_region_H (rgH 0 13) (fun Y : World => Y.cell? ⟨g, k, none⟩ = some (.slice sk mk ck)) (by kernel_rfl) ?_
      have HSv := HS.out wr.drew (Below.refl _ _).drew
      refine wpAnyH_at 0 (v := ?vv1) rfl (by kernel_rfl) (by kernel_rfl) (by kernel_rfl) (fun _ _ _ h => h) ?hy1 HSv ?hh1
      case hy1 =>
        refine Or.inl ⟨by rfl, ?_⟩
        intro W hW
        obtain h0 := hW
        go_simp
        try with_reducible rfl
      simp only [Act.put, List.setIfInBounds_toArray, List.set_cons_zero, List.set_cons_succ]
      refine wpAnyH_at 1 (v := ?vv2) rfl (by kernel_rfl) (by kernel_rfl) (by kernel_rfl) (fun _ _ _ h => h) ?hy2 HSv ?hh2
      case hy2 =>
        refine Or.inl ⟨by rfl, ?_⟩
        intro W hW
        obtain h0 := hW
        go_simp
        try with_reducible rfl
      simp only [Act.put, List.setIfInBounds_toArray, List.set_cons_zero, List.set_cons_succ]
      refine wpAnyH_at 2 (v := ?vv3) rfl (by kernel_rfl) (by kernel_rfl) (by kernel_rfl) (fun _ _ _ h => h) ?hy3 HSv ?hh3
      case hy3 =>
        refine Or.inl ⟨by rfl, ?_⟩
        intro W hW
        obtain h0 := hW
        go_simp
        try with_reducible rfl
      simp only [Act.put, List.setIfInBounds_toArray, List.set_cons_zero, List.set_cons_succ]
      refine wpAnyH_at 3 (v := ?vv4) rfl (by kernel_rfl) (by kernel_rfl) (by kernel_rfl) (fun _ _ _ h => h) ?hy4 HSv ?hh4
      case hy4 =>
        refine Or.inl ⟨by rfl, ?_⟩
        intro W hW
        obtain h0 := hW
        go_simp
        try with_reducible rfl
      simp only [Act.put, List.setIfInBounds_toArray, List.set_cons_zero, List.set_cons_succ]
      refine wpAnyH_at 4 (v := ?vv5) rfl (by kernel_rfl) (by kernel_rfl) (by kernel_rfl) (fun _ _ _ h => h) ?hy5 HSv ?hh5
      case hy5 =>
        refine Or.inl ⟨by rfl, ?_⟩
        intro W hW
        obtain h0 := hW
        go_simp
        try with_reducible rfl
      simp only [Act.put, List.setIfInBounds_toArray, List.set_cons_zero, List.set_cons_succ]
      refine wpAnyH_at 5 (v := ?vv6) rfl (by kernel_rfl) (by kernel_rfl) (by kernel_rfl) (fun _ _ _ h => h) ?hy6 HSv ?hh6
      case hy6 =>
        refine Or.inl ⟨by rfl, ?_⟩
        intro W hW
        obtain h0 := hW
        go_simp
        try with_reducible rfl
      simp only [Act.put, List.setIfInBounds_toArray, List.set_cons_zero, List.set_cons_succ]
      refine wpAnyH_at 6 (v := ?vv7) rfl (by kernel_rfl) (by kernel_rfl) (by kernel_rfl) (fun _ _ _ h => h) ?hy7 HSv ?hh7
      case hy7 =>
        refine Or.inl ⟨by rfl, ?_⟩
        intro W hW
        obtain h0 := hW
        go_simp
        try with_reducible rfl
      simp only [Act.put, List.setIfInBounds_toArray, List.set_cons_zero, List.set_cons_succ]
      refine wpAnyH_at 7 (v := ?vv8) rfl (by kernel_rfl) (by kernel_rfl) (by kernel_rfl) (fun _ _ _ h => h) ?hy8 HSv ?hh8
      case hy8 =>
        refine Or.inl ⟨by rfl, ?_⟩
        intro W hW
        obtain h0 := hW
        go_simp
        try with_reducible rfl
      simp only [Act.put, List.setIfInBounds_toArray, List.set_cons_zero, List.set_cons_succ]
      refine wpAnyH_at 8 (v := ?vv9) rfl (by kernel_rfl) (by kernel_rfl) (by kernel_rfl) (fun _ _ _ h => h) ?hy9 HSv ?hh9
      case hy9 =>
        refine Or.inl ⟨by rfl, ?_⟩
        intro W hW
        obtain h0 := hW
        go_simp
        try with_reducible rfl
      simp only [Act.put, List.setIfInBounds_toArray, List.set_cons_zero, List.set_cons_succ]
      refine wpAnyH_at 9 (v := ?vv10) rfl (by kernel_rfl) (by kernel_rfl) (by kernel_rfl) (fun _ _ _ h => h) ?hy10 HSv ?hh10
      case hy10 =>
        refine Or.inl ⟨by rfl, ?_⟩
        intro W hW
        obtain h0 := hW
        go_simp
        try with_reducible rfl
      simp only [Act.put, List.setIfInBounds_toArray, List.set_cons_zero, List.set_cons_succ]
      refine wpAnyH_1 10 rfl (by kernel_rfl) ?_
      intro K hK
      rw [if_pos (by rfl)]
      try go_simp
      go_at_call 204
      refine (markI_any k 0 mk (by omega) (by omega) (by omega) _).mono ?_
      rintro e W2 ⟨v2, rfl, h2⟩
      have HB2 := Lib.hid (show Below wr.heap.size wr W2 from Below.trans (Below.refl _ _).drew h2.b)
      have HSv := HS.out W2 HB2.out
      have H2 := Lib.hid h2.r
      clear h2
      refine hK _ _ (fun _ => HSv) ?_
      try simp only [Act.put, List.setIfInBounds_toArray, List.set_cons_zero, List.set_cons_succ]
      refine wpAnyH_1 11 rfl (by kernel_rfl) ?_
      intro K hK
      rw [if_pos (by rfl)]
      try go_simp
      go_at_call 10
      refine (sameI_true (mlist k 0 mk) _ _ _ (by rw [mlist_len, ← mlist_V]; exact HR.out.below HB2.out) (by rw [mlist_len, ← mlist_V]; exact H2.out.rd) (by rw [mlist_len]; omega)).mono ?_
      rintro e W3 ⟨rfl, hb3⟩
      have HB3 := Lib.hid (HB2.out.trans (hb3.mono HB2.out.size))
      have HSv := HS.out W3 HB3.out
      clear hb3
      refine hK _ _ (fun _ => HSv) ?_
      try simp only [Act.put, List.setIfInBounds_toArray, List.set_cons_zero, List.set_cons_succ]
      refine wpAnyH_at 12 (v := ?vv11) rfl (by kernel_rfl) (by kernel_rfl) (by kernel_rfl) (fun _ _ _ h => h) ?hy11 HSv ?hh11
      case hy11 =>
        refine Or.inl ⟨by rfl, ?_⟩
        intro W hW
        obtain h0 := hW
        go_simp
        try with_reducible rfl
      simp only [Act.put, List.setIfInBounds_toArray, List.set_cons_zero, List.set_cons_succ]
      refine wpAnyH_end 13 (fun j hj => rgH_end _ _ j (by omega)) (by rfl) (by kernel_rfl) ?_
      simp only [List.drop_succ_cons, List.drop_zero]
      go_wp2_with fail
      go_roundg (n - (k + 1))
      case measure => omega
      case rel => exact ⟨k + 1, by omega, rfl, by go_num, HK.out.trans (HB3.out.mono HK.out.size)⟩
    · go_wp2_with fail
      go_ret
      exact ⟨rfl, HK.out⟩
end Go.Proofs.YtignponfoheaeaaGreat
