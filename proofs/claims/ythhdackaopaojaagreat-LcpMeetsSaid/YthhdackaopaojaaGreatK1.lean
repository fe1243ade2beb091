import Derived.Test.YthhdackaopaojaaGreatV7
/- Answer, whose closures may turn blocks of their own. -/
namespace Go.Proofs.YthhdackaopaojaaGreat
open Go.RowKit Go.Tg Go.Maps

section
variable {σ : Type}
/-- What is named instead, where each naming turns a state. -/
def nakQ (fits : Opt → Bool) (inst : σ → Int → ByteArray × σ) (s : σ) (l : List Opt) : List Opt × σ :=
  l.foldl (fun a o => if fits o then a else (a.1 ++ [⟨o.t, (inst a.2 o.t).1⟩], (inst a.2 o.t).2)) ([], s)
theorem nakQ_snoc (fits : Opt → Bool) (inst : σ → Int → ByteArray × σ) (s : σ) (l : List Opt) (o : Opt) :
    nakQ fits inst s (l ++ [o]) = if fits o then nakQ fits inst s l else ((nakQ fits inst s l).1 ++ [⟨o.t, (inst (nakQ fits inst s l).2 o.t).1⟩], (inst (nakQ fits inst s l).2 o.t).2) := by
  simp only [nakQ, List.foldl_append, List.foldl_cons, List.foldl_nil]
theorem nakQ_len' (fits : Opt → Bool) (inst : σ → Int → ByteArray × σ) : ∀ (l : List Opt) (a : List Opt × σ),
    (l.foldl (fun a o => if fits o then a else (a.1 ++ [⟨o.t, (inst a.2 o.t).1⟩], (inst a.2 o.t).2)) a).1.length ≤ a.1.length + l.length := by
  intro l
  induction l with
  | nil => intro a; simp
  | cons o l ih =>
    intro a
    rw [List.foldl_cons]
    refine Nat.le_trans (ih _) ?_
    split
    · simp
    · simp only [List.length_append, List.length_cons, List.length_nil]; omega
theorem nakQ_len (fits : Opt → Bool) (inst : σ → Int → ByteArray × σ) (s : σ) (l : List Opt) : (nakQ fits inst s l).1.length ≤ l.length := by
  have := nakQ_len' fits inst l ([], s)
  simpa [nakQ] using this
/-- The answer to a request, and the state behind it. -/
def answerQ (has : Int → Bool) (fits : Opt → Bool) (inst : σ → Int → ByteArray × σ) (s : σ) (l : List Opt) : (Int × List Opt) × σ :=
  if (rejP has [] l).length ≠ 0 then ((4, rejP has [] l), s) else if (nakQ fits inst s l).1.length ≠ 0 then ((3, (nakQ fits inst s l).1), (nakQ fits inst s l).2) else ((2, l), (nakQ fits inst s l).2)
end

set_option maxHeartbeats 8000000 in
set_option maxRecDepth 100000 in
theorem answerQ_any (l : List Opt) (lv : Value) (ok : Nat → Prop) (w : World) (hl : Opts w ok lv l) (hmax : l.length ≤ 1000000) (hwf : ∀ o ∈ l, I64 o.t)
    (gh gf gi : Nat) (bh : Array Value) (pf qi : Value) {σ : Type} (has : Int → Bool) (fits : Opt → Bool) (inst : σ → Int → ByteArray × σ) (s0 : σ) (T : Nat → Prop) (Q : World → σ → Prop)
    (hQB : ∀ W W' s, Q W s → Below w.heap.size W W' → Q W' s) (hTw : ∀ b, T b → b < w.heap.size) (hok : ∀ b, ok b → ¬ T b) (hq0 : Q w s0)
    (eh : ∀ args w, (callFunc gh args).run Tryz.prog w = .ok (.enter gh args) w) (ef : ∀ args w, (callFunc gf args).run Tryz.prog w = .ok (.enter gf args) w) (ei : ∀ args w, (callFunc gi args).run Tryz.prog w = .ok (.enter gi args) w)
    (hh : ∀ (W : World) (o : Opt), o ∈ l → Below w.heap.size w W → Calls Tryz.prog gh (#[.int .i64 o.t] ++ bh) W fun e w' => e = .returned (.bool (has o.t)) ∧ Below W.heap.size W w')
    (hf : ∀ (W : World) (s : σ) (o : Opt), o ∈ l → Keep T w W → Q W s → Calls Tryz.prog gf #[pf, .agg #[.int .i64 o.t, .string o.v]] W fun e w' => e = .returned (.bool (fits o)) ∧ Q w' s ∧ Keep T W w')
    (hi : ∀ (W : World) (s : σ) (o : Opt), o ∈ l → Keep T w W → Q W s → Calls Tryz.prog gi #[qi, .int .i64 o.t] W fun e w' => e = .returned (.string (inst s o.t).1) ∧ Q w' (inst s o.t).2 ∧ Keep T W w') :
    Calls Tryz.prog 73 #[lv, .func (.func gh) #[] bh, .func (.func gf) #[pf] #[], .func (.func gi) #[qi] #[]] w fun e w' =>
      ∃ v, e = .returned (.tuple #[.int .i64 (answerQ has fits inst s0 l).1.1, v]) ∧ ORow w' w.heap.size v (answerQ has fits inst s0 l).1.2 ∧ Q w' (answerQ has fits inst s0 l).2 ∧ Keep T w w' := by
  obtain ⟨sa, c, rfl, hc, hm⟩ := hl.form
  have HL := Lib.hid hl
  have HH := Lib.hid hh
  have HF := Lib.hid hf
  have HI := Lib.hid hi
  have HWF := Lib.hid hwf
  have HQ0 := Lib.hid (And.intro hQB (And.intro hTw (And.intro hok hq0)))
  obtain ⟨len, hln⟩ : ∃ len, len = l.length := ⟨_, rfl⟩
  have HLN := Lib.hid hln
  have hmm := @run_makeMap Tryz.prog
  rw [← hln] at hc hmax ⊢
  unfold maxLen at hm
  clear hl hh hf hi hwf hln hQB hTw hok hq0
  go_enter Tryz.func73, Tryz.ntmps73
  go_wp2_with fail
  go_loopg [10, 22] len (fun x r i wr => ∃ k : Nat, k ≤ len ∧ x = len - k ∧ i = .int .i64 k ∧
    Hid (AnsI w wr r (rejP has [] (l.take k)) (l.take k)))
  case atStart =>
    refine ⟨0, by omega, by omega, rfl, ORow.nil _ _, ?_, (by intro b hb; cases hb), (Below.refl _ _).alloc (Nat.le_refl _) _⟩
    rw [List.take_zero, seenF_nil]
    exact MapAt.empty _
  case round =>
    obtain ⟨k, hk, rfl, rfl, hK⟩ := hrel
    have HK := Lib.hid hK.out
    clear hK
    by_cases hkl : k < len
    · have hkl' : k < l.length := by have := HLN.out; omega
      obtain ⟨b, off, rfl, hb, -, -, -, -, c0, c1⟩ := HL.out.at k hkl'
      have d0 : wr.cell? ⟨b, off + k * 2, none⟩ = _ := (HK.out.2.2.2.cell (p := ⟨b, off + k * 2, none⟩) hb).trans c0
      have d1 : wr.cell? ⟨b, off + k * 2 + 1, none⟩ = _ := (HK.out.2.2.2.cell (p := ⟨b, off + k * 2 + 1, none⟩) hb).trans c1
      have hwm : w.heap.size < wr.heap.size := HK.out.2.1.lt
      have HO := Lib.hid (List.getElem_mem hkl')
      have HT := Lib.hid (show l.take (k + 1) = l.take k ++ [l[k]] from by rw [List.take_succ_eq_append_getElem hkl'])
      clear c0 c1
      generalize l[k] = o at *
      have hwo := HWF.out o HO.out
      have hzu : ∀ w, (zeroValue 126).run Tryz.prog w = .ok (.agg #[]) w := fun w => by kernel_rfl
      have hlk := (HK.out.2.1.same (w' := wr.alloc (.cells #[.int .i64 o.t, .string o.v] 67 (0, 0))) (Below.heap_alloc _ _ _ hwm)).run_lookup keyedI Tryz.underlying125 (kvI hwo) (hzu _) true
      rw [seenF_at] at hlk
      have HR := Lib.hid (show rejP has [] (l.take (k + 1)) = rejP has [] (l.take k) ++ (if rejOne has (l.take k) o then [o] else []) from by rw [HT.out, rejP_snoc, List.nil_append])
      unfold rejOne at HR
      generalize hhad : (l.take k).any (fun x => x.t == o.t) = had at hlk HR
      clear hhad hzu hwm
      obtain ⟨t, v⟩ := o
      simp only at d0 d1 hlk HR hwo
      have hlen : (rejP has [] (l.take k)).length ≤ 1000000 := by
        have := rejP_len has (l.take k) []
        rw [List.length_take] at this
        omega
      generalize hrow : rejP has [] (l.take k) = row at HK HR hlen
      have HX := Lib.hid ((((Below.refl wr.heap.size wr).alloc (Nat.le_refl _) (.cells #[.int .i64 t, .string v] 67 (0, 0)))).alloc (by rw [alloc1]; omega) (.cells #[] 126 (0, 0)))
      have hx0 := (Below.heap_alloc (wr.alloc (.cells #[.int .i64 t, .string v] 67 (0, 0))) (.cells #[] 126 (0, 0)) wr.heap.size (by rw [alloc1]; omega)).trans (at1 wr (.cells #[.int .i64 t, .string v] 67 (0, 0)))
      have HX0 := Lib.hid hx0
      clear hx0 hrow
      cases had with
      | true =>
        simp only [if_pos, Option.getD, Option.isSome] at hlk
        have hK2 := HK.out.below HX.out
        have hsz : ((wr.alloc (.cells #[.int .i64 t, .string v] 67 (0, 0))).alloc (.cells #[] 126 (0, 0))).heap.size = wr.heap.size + 1 + 1 := alloc2 _ _ _
        have hxn := at1 ((wr.alloc (.cells #[.int .i64 t, .string v] 67 (0, 0))).alloc (.cells #[] 126 (0, 0))) (.cells #[.int .i64 t, .string v] 67 (0, 0))
        have hK3 := hK2.below ((Below.refl _ _).alloc (Nat.le_refl _) (.cells #[.int .i64 t, .string v] 67 (0, 0)))
        have hx3 := (Below.heap_alloc ((wr.alloc (.cells #[.int .i64 t, .string v] 67 (0, 0))).alloc (.cells #[] 126 (0, 0))) (.cells #[.int .i64 t, .string v] 67 (0, 0)) wr.heap.size (by rw [alloc2]; omega)).trans HX0.out
        rw [hsz] at hxn
        have HK3 := Lib.hid hK3
        have HXN := Lib.hid hxn
        have HX3 := Lib.hid (And.intro hx3 hK3.2.2.2.size)
        clear hK2 hK3 hx3 hxn hsz
        go_wp2_with (at_builtin; refine wpl_append_opt rfl _ _ rfl _ row rfl HK3.out.1 _ 1 t v rfl HXN.out hlen HX3.out.2 ?_)
        intro g cap w5 hr5 hk5 hg5
        have hne : ¬ u10.ownBlock = some wr.heap.size := fun e => Nat.lt_irrefl _ (HK.out.1.lt _ e).1
        have e0 : w5.cell? ⟨wr.heap.size, 0, none⟩ = some (.int .i64 t) := cellOf ((hk5.block wr.heap.size (by rw [alloc1, alloc2]; omega) hne).trans HX3.out.1) 0 _ rfl
        obtain ⟨ob, hup, hA⟩ := (HK3.out.app hr5 hk5 (by rw [alloc1, alloc2]; exact hg5)).upd ⟨t, v⟩ hwo
        have HA := Lib.hid hA
        clear hA hr5 hk5 hg5 hne
        go_wp2_with fail
        go_roundg (len - (k + 1))
        case measure => omega
        case rel => exact ⟨k + 1, by omega, rfl, by go_num, by rw [HR.out, HT.out]; exact HA.out⟩
      | false =>
        simp only [Option.getD, Option.isSome] at hlk
        have hK2 := HK.out.below HX.out
        have hcall := HH.out _ ⟨t, v⟩ HO.out hK2.2.2.2
        simp only at hcall
        have HK2 := Lib.hid hK2
        clear hK2
        generalize has t = bb at hcall HR
        cases bb with
        | true =>
          go_wp2_with (go_at_fn gh; refine hcall.mono ?_; rintro e w5 ⟨rfl, hb5⟩
                       have e0 : w5.cell? ⟨wr.heap.size, 0, none⟩ = some (.int .i64 t) := cellOf ((hb5.block wr.heap.size (by rw [alloc2]; omega)).trans HX0.out) 0 _ rfl
                       obtain ⟨ob, hup, hA⟩ := (HK2.out.below hb5).upd ⟨t, v⟩ hwo
                       have HA := Lib.hid hA
                       clear hA hb5)
          go_roundg (len - (k + 1))
          case measure => omega
          case rel => exact ⟨k + 1, by omega, rfl, by go_num, by rw [HR.out, HT.out, if_neg (by decide), List.append_nil]; exact HA.out⟩
        | false =>
          go_wp2_with (first
            | (go_at_fn gh; refine hcall.mono ?_; rintro e w5 ⟨rfl, hb5⟩
               have hx5 := (hb5.block wr.heap.size (by rw [alloc2]; omega)).trans HX0.out
               have c50 : w5.cell? ⟨wr.heap.size, 0, none⟩ = some (.int .i64 t) := cellOf hx5 0 _ rfl
               have c51 : w5.cell? ⟨wr.heap.size, 1, none⟩ = some (.string v) := cellOf hx5 1 _ rfl
               have hK3 := (HK2.out.below hb5).below ((Below.refl _ _).alloc (Nat.le_refl _) (.cells #[.int .i64 t, .string v] 67 (0, 0)))
               have hlt5 : wr.heap.size < w5.heap.size := (Array.getElem?_eq_some_iff.1 hx5).1
               have hx3 := (Below.heap_alloc w5 (.cells #[.int .i64 t, .string v] 67 (0, 0)) wr.heap.size hlt5).trans hx5
               have hxn := at1 w5 (.cells #[.int .i64 t, .string v] 67 (0, 0))
               have HK3 := Lib.hid hK3
               have HXN := Lib.hid hxn
               have HX3 := Lib.hid (And.intro hx3 (And.intro hK3.2.2.2.size hlt5))
               clear hK3 hx3 hxn hx5 hb5 hlt5)
            | (at_builtin; refine wpl_append_opt rfl _ _ rfl _ row rfl HK3.out.1 _ 1 t v rfl HXN.out hlen HX3.out.2.1 ?_
               intro g cap w6 hr5 hk5 hg5
               have hne : ¬ u10.ownBlock = some wr.heap.size := fun e => Nat.lt_irrefl _ (HK.out.1.lt _ e).1
               have e0 : w6.cell? ⟨wr.heap.size, 0, none⟩ = some (.int .i64 t) := cellOf ((hk5.block wr.heap.size (by rw [alloc1]; have := HX3.out.2.2; omega) hne).trans HX3.out.1) 0 _ rfl
               obtain ⟨ob, hup, hA⟩ := (HK3.out.app hr5 hk5 hg5).upd ⟨t, v⟩ hwo
               have HA := Lib.hid hA
               clear hA hr5 hk5 hg5 hne))
          go_roundg (len - (k + 1))
          case measure => omega
          case rel => exact ⟨k + 1, by omega, rfl, by go_num, by have hA' := HA.out; rw [List.length_append] at hA'; rw [HR.out, HT.out, if_pos (by decide)]; exact hA'⟩
    · obtain rfl : len = k := by omega
      have HQ := Lib.hid (show l.take len = l from List.take_of_length_le (by have := HLN.out; omega))
      rw [HQ.out] at HK
      by_cases hz : (rejP has [] l).length = 0
      · have HAS := Lib.hid (show answerQ has fits inst s0 l = if (nakQ fits inst s0 l).1.length ≠ 0 then ((3, (nakQ fits inst s0 l).1), (nakQ fits inst s0 l).2) else ((2, l), (nakQ fits inst s0 l).2) from by unfold answerQ; rw [if_neg (by omega)])
        obtain ⟨ra, rc, hr⟩ := HK.out.1.form
        rw [hz] at hr
        subst hr
        have HB1 := Lib.hid HK.out.2.2.2
        clear hz
        go_wp2_with fail
        go_loopg [11, 56] len (fun x r i wr => ∃ k : Nat, k ≤ len ∧ x = len - k ∧ i = .int .i64 k ∧ Hid (ORow wr w.heap.size r (nakQ fits inst s0 (l.take k)).1 ∧ Keep T w wr ∧ Q wr (nakQ fits inst s0 (l.take k)).2))
        case atStart => exact ⟨0, by omega, by omega, rfl, ORow.nil _ _, Keep.of_below _ HB1.out, HQ0.out.1 _ _ _ HQ0.out.2.2.2 HB1.out⟩
        case round =>
          obtain ⟨k, hk, rfl, rfl, hK⟩ := hrel
          have HK := Lib.hid hK.out
          clear hK
          by_cases hkl : k < len
          · have hkl' : k < l.length := by have := HLN.out; omega
            obtain ⟨b, off, rfl, hb, hbo, -, -, -, c0, c1⟩ := HL.out.at k hkl'
            have hbT := HQ0.out.2.2.1 b hbo
            have d0 : wr.cell? ⟨b, off + k * 2, none⟩ = _ := (HK.out.2.1.cell (p := ⟨b, off + k * 2, none⟩) hb hbT).trans c0
            have d1 : wr.cell? ⟨b, off + k * 2 + 1, none⟩ = _ := (HK.out.2.1.cell (p := ⟨b, off + k * 2 + 1, none⟩) hb hbT).trans c1
            have HO := Lib.hid (List.getElem_mem hkl')
            have HT := Lib.hid (show nakQ fits inst s0 (l.take (k + 1)) = if fits l[k] then nakQ fits inst s0 (l.take k) else ((nakQ fits inst s0 (l.take k)).1 ++ [⟨l[k].t, (inst (nakQ fits inst s0 (l.take k)).2 l[k].t).1⟩], (inst (nakQ fits inst s0 (l.take k)).2 l[k].t).2) from by rw [List.take_succ_eq_append_getElem hkl', nakQ_snoc])
            have hlen : (nakQ fits inst s0 (l.take k)).1.length ≤ 1000000 := by
              have := nakQ_len fits inst s0 (l.take k)
              rw [List.length_take] at this
              omega
            have hTn : ∀ b, w.heap.size ≤ b → ¬ T b := fun b hb ht => by have := HQ0.out.2.1 b ht; omega
            have HTN := Lib.hid hTn
            clear c0 c1 hbo hbT hTn
            generalize nakQ fits inst s0 (l.take k) = qq at *
            obtain ⟨row, s1⟩ := qq
            generalize l[k] = o at *
            obtain ⟨t, v⟩ := o
            dsimp only at d0 d1 HT hlen HK
            have hbx := (Below.refl wr.heap.size wr).alloc (Nat.le_refl _) (.cells #[.int .i64 t, .string v] 67 (0, 0))
            have hx0 := at1 wr (.cells #[.int .i64 t, .string v] 67 (0, 0))
            have hws : w.heap.size ≤ wr.heap.size := HK.out.2.1.size
            have hcall := HF.out _ s1 ⟨t, v⟩ HO.out (HK.out.2.1.alloc (.cells #[.int .i64 t, .string v] 67 (0, 0))) (HQ0.out.1 _ _ _ HK.out.2.2 (hbx.mono HK.out.2.1.size))
            simp only at hcall
            have HX := Lib.hid (And.intro (Keep.of_below T hbx) hx0)
            clear hbx hx0
            generalize fits ⟨t, v⟩ = bb at hcall HT
            cases bb with
            | true =>
              go_wp2_with (go_at_fn gf; refine hcall.mono ?_; rintro e w5 ⟨rfl, hq5, hb5⟩
                           have HB5 := Lib.hid (And.intro hq5 (HX.out.1.trans hb5))
                           clear hb5 hq5)
              go_roundg (len - (k + 1))
              case measure => omega
              case rel => exact ⟨k + 1, by omega, rfl, by go_num, by rw [HT.out, if_pos trivial]; exact ⟨HK.out.1.keep HB5.out.2 (fun b hb => HTN.out b (HK.out.1.lt b hb).2), HK.out.2.1.trans HB5.out.2, HB5.out.1⟩⟩
            | false =>
              have HII := Lib.hid (fun W hW hq => HI.out W s1 ⟨t, v⟩ HO.out hW hq)
              simp only at HII
              generalize inst s1 t = it at HII HT
              obtain ⟨it, s2⟩ := it
              dsimp only at HII HT
              go_wp2_with (go_at_fn gf; refine hcall.mono ?_; rintro e w5 ⟨rfl, hq5, hb5⟩
                           have hx5 := (hb5.block wr.heap.size (by rw [alloc1]; omega) (HTN.out _ hws)).trans HX.out.2
                           have hbw5 := HX.out.1.trans hb5
                           have HB5 := Lib.hid (And.intro hbw5 hx5)
                           have e50 : w5.cell? ⟨wr.heap.size, 0, none⟩ = some (.int .i64 t) := cellOf hx5 0 _ rfl
                           have hci := HII.out w5.drew (HK.out.2.1.trans hbw5.drew) (HQ0.out.1 _ _ _ hq5 (Below.refl w.heap.size w5).drew)
                           clear hb5 hx5 hbw5 hq5)
              have HZ : Hid (∀ w6, Keep T w5.drew w6 → w6.cell? ⟨wr.heap.size, 0, none⟩ = some (.int .i64 t) ∧ Hid (ORow (w6.alloc (.cells #[.int .i64 t, .string it] 67 (0, 0))) w.heap.size u11 row ∧
                  (w6.alloc (.cells #[.int .i64 t, .string it] 67 (0, 0))).heap[w6.heap.size]? = some (.cells #[.int .i64 t, .string it] 67 (0, 0)) ∧ w.heap.size ≤ (w6.alloc (.cells #[.int .i64 t, .string it] 67 (0, 0))).heap.size ∧
                  Keep T w (w6.alloc (.cells #[.int .i64 t, .string it] 67 (0, 0))))) := Lib.hid (by
                intro w6 hb6
                have hlt5 : wr.heap.size < w5.heap.size := (Array.getElem?_eq_some_iff.1 HB5.out.2).1
                have hB : Keep T wr (w6.alloc (.cells #[.int .i64 t, .string it] 67 (0, 0))) := (HB5.out.1.drew.trans hb6).alloc _
                have hBw := HK.out.2.1.trans hB
                exact ⟨cellOf ((hb6.block wr.heap.size hlt5 (HTN.out _ hws)).trans HB5.out.2) 0 _ rfl, HK.out.1.keep hB (fun b hb => HTN.out b (HK.out.1.lt b hb).2), at1 _ _, hBw.size, hBw⟩)
              go_region_law (first
                | (go_simp; go_at_fn gi; refine hci.mono ?_; rintro e w6 ⟨rfl, hq6, hb6⟩; obtain ⟨e60, HB6⟩ := HZ.out w6 hb6; have HQ6 := Lib.hid (HQ0.out.1 _ _ _ hq6 ((Below.refl w.heap.size w6).alloc (by have := HB6.out.2.2.1; rw [alloc1] at this; have := HK.out.2.1.size; have := HB5.out.1.size; have := hb6.size; exact Nat.le_trans ‹w.heap.size ≤ wr.heap.size› (Nat.le_trans ‹wr.heap.size ≤ w5.heap.size› this)) (.cells #[.int .i64 t, .string it] 67 (0, 0)))); clear hb6 hq6)
                | (refine step_append_opt rfl (.tmp 64) (.tmp 72) rfl u11 row rfl HB6.out.1 _ 1 t it rfl HB6.out.2.1 hlen HB6.out.2.2.1 ?_; intro g cap w7 hr7 hk7 hg7; have H7 := Lib.hid (And.intro hr7 hk7); clear hr7 hk7 hg7))
              all_goals (
                go_wp2_with fail
                go_roundg (len - (k + 1))
                case measure => omega
                case rel =>
                  refine ⟨k + 1, by omega, rfl, by go_num, ?_⟩
                  rw [HT.out, if_neg (by simp)]
                  have hr7 := H7.out.1
                  rw [List.length_append] at hr7
                  have hn7 : ∀ q, q < w.heap.size → ¬ (u11.ownBlock = some q) := fun q hq e => Nat.lt_irrefl _ (Nat.lt_of_lt_of_le hq (HK.out.1.lt _ e).2)
                  exact ⟨hr7, HB6.out.2.2.2.transM H7.out.2 (fun _ _ h => h) (fun q hq e => (hn7 q hq e).elim), HQ0.out.1 _ _ _ HQ6.out (H7.out.2.below HB6.out.2.2.1 hn7)⟩)
          · obtain rfl : len = k := by omega
            rw [HQ.out] at HK
            by_cases hz : (nakQ fits inst s0 l).1.length = 0
            · have HA2 := Lib.hid (show answerQ has fits inst s0 l = ((2, l), (nakQ fits inst s0 l).2) from by rw [HAS.out, if_neg (by omega)])
              obtain ⟨ra, rc, hr⟩ := HK.out.1.form
              rw [hz] at hr
              subst hr
              have HC := Lib.hid (clone_any l (.slice sa len c) ok wr (by have : Opts wr ok (.slice sa l.length c) l := Rec.keep HL.out HK.out.2.1 (fun b _ hb => HQ0.out.2.2.1 b hb); rwa [← HLN.out] at this) (by rw [← HLN.out]; exact hmax))
              go_wp2_with fail
              refine HC.out.mono ?_
              rintro e w6 ⟨cv, rfl, hrow, hbc⟩
              have H6 := Lib.hid (And.intro hrow hbc)
              clear hrow hbc
              go_wp2_with fail
              go_ret2
              have hrow := H6.out.1
              refine ⟨_, by rw [HA2.out]; rfl, ?_, by rw [HA2.out]; exact HQ0.out.1 _ _ _ HK.out.2.2 (H6.out.2.mono HK.out.2.1.size), HK.out.2.1.trans (Keep.of_below T H6.out.2)⟩
              rw [HA2.out]
              exact hrow.base HK.out.2.1.size
            · have HA2 := Lib.hid (show answerQ has fits inst s0 l = ((3, (nakQ fits inst s0 l).1), (nakQ fits inst s0 l).2) from by rw [HAS.out, if_pos hz])
              obtain ⟨ra, rc, hr⟩ := HK.out.1.form
              generalize nakQ fits inst s0 l = qq at *
              obtain ⟨row, s1⟩ := qq
              dsimp only at hr hz HK HA2
              subst hr
              have hd : decide ((0 : Int) < (row.length : Int)) = true := by simpa using Nat.pos_of_ne_zero hz
              go_wp2_with fail
              go_ret2
              exact ⟨_, by rw [HA2.out]; rfl, by rw [HA2.out]; exact HK.out.1, by rw [HA2.out]; exact HK.out.2.2, HK.out.2.1⟩
      · have HAS := Lib.hid (show answerQ has fits inst s0 l = ((4, rejP has [] l), s0) from by unfold answerQ; rw [if_pos hz])
        obtain ⟨ra, rc, hr⟩ := HK.out.1.form
        generalize rejP has [] l = row at *
        subst hr
        have hd : decide ((0 : Int) < (row.length : Int)) = true := by simpa using Nat.pos_of_ne_zero hz
        go_wp2_with fail
        go_ret2
        exact ⟨_, by rw [HAS.out]; rfl, by rw [HAS.out]; exact HK.out.1, by rw [HAS.out]; exact HQ0.out.1 _ _ _ HQ0.out.2.2.2 HK.out.2.2.2, Keep.of_below T HK.out.2.2.2⟩
end Go.Proofs.YthhdackaopaojaaGreat
