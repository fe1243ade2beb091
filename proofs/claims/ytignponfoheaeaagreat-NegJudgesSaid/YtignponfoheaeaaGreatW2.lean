import Derived.Test.YtignponfoheaeaaGreatW1
namespace Go.Proofs.YtignponfoheaeaaGreat
open Go.RowKit Go.Tg Go.Maps

def doStep (cf tm : Int) (xs : List Int) (c x : Int) : Int :=
  if x = 4 then (if hasB xs 9 then tm else cf) else if x = 5 then 0 else if x = 6 ∨ x = 9 then (if c - 1 < 0 then 0 else c - 1) else c
def doC (cf tm : Int) (xs ys : List Int) (c : Int) : Int := ys.foldl (doStep cf tm xs) c

def InB (x : Int) : Prop := 0 ≤ x ∧ x ≤ 20
theorem doStep_bd {cf tm c : Int} (xs : List Int) (x : Int) (h1 : InB cf) (h2 : InB tm) (h3 : InB c) : InB (doStep cf tm xs c x) := by
  unfold doStep InB at *
  repeat' split
  all_goals omega
theorem doC_bd {cf tm : Int} (xs : List Int) (h1 : InB cf) (h2 : InB tm) : ∀ (ys : List Int) (c : Int), InB c → InB (doC cf tm xs ys c) := by
  intro ys
  induction ys with
  | nil => intro c h; exact h
  | cons y ys ih => intro c h; exact ih _ (doStep_bd xs y h1 h2 h)
theorem doC_snoc (cf tm c : Int) (xs : List Int) (k : Nat) (h : k < xs.length) : doC cf tm xs (xs.take (k + 1)) c = doStep cf tm xs (doC cf tm xs (xs.take k) c) xs[k] := by
  unfold doC
  rw [List.take_succ_eq_append_getElem h, List.foldl_append]
  rfl

theorem InB_out {c : Int} (h : InB c) : 0 ≤ c ∧ c ≤ 20 := h

set_option maxHeartbeats 2000000 in
set_option maxRecDepth 100000 in
theorem do_core (ns : Int) (xs : List Int) (b : Nat) (s c cf tm e : Int) (w : World) (h : AutoAt w b s c cf tm) (h1 : 1 ≤ cf) (h2 : cf ≤ 20) (h3 : 1 ≤ tm) (h4 : tm ≤ 20) (h5 : InB c)
    (HN : ∀ w, Hid (Calls Tryz.prog 9 #[.int .i64 s, .int .i64 e] w fun en w' => ∃ v, en = .returned (.tuple #[.int .i64 ns, v]) ∧ IntsAt 3 w.heap.size w' v xs ∧ Below w.heap.size w w')) (hlen : xs.length ≤ 1000) :
    Calls Tryz.prog 17 #[.pointer (some ⟨b, 0, none⟩), .int .i64 e] w fun en w' => ∃ v, en = .returned v ∧ IntsAt 3 w.heap.size w' v xs ∧
      AutoAt w' b ns (doC cf tm xs xs c) cf tm ∧ Keep (· = b) w w' := by
  have hc0 := h.c0
  go_enter Tryz.func17, Tryz.ntmps17
  go_wp2_with fail
  refine (none_some _ _ _ _ _ _ h h1).mono ?_
  rintro en w0 ⟨rfl, rfl⟩
  go_wp2_with fail
  refine (HN w).out.mono ?_
  rintro en w1 ⟨v, rfl, hv, hbl⟩
  have ha1 := h.below hbl
  have hf1 := ha1.fz 0
  have hc1 := ha1.c0
  clear HN
  have hlt0 := h.lt
  have hlt1 := ha1.lt
  have hv' := hv
  rcases hv with ⟨rfl, rfl⟩ | ⟨bb, hbb, rfl, hblk⟩
  · go_wp2
    refine wp_loop_rounds 1 ?_
    rw [rounds_succ]
    go_wp2
    go_ret
    exact ⟨_, rfl, Or.inl ⟨rfl, rfl⟩, ha1.set0 _, (Keep.of_below (· = b) hbl).setB _ _⟩
  · go_wp2
    have HA := Lib.hid (ha1.set0 ns)
    have HK := Lib.hid ((Keep.of_below (· = b) hbl).setCell ⟨b, 0, none⟩ (Or.inr rfl) (.int .i64 ns))
    have HV := Lib.hid (hv'.keep ((Keep.refl (· = b) w1).setCell ⟨b, 0, none⟩ (Or.inr rfl) (.int .i64 ns)) (fun b' o hb' hS => by subst hS; omega))
    clear ha1 hf1 hc1 hv' hblk hbl h hc0
    generalize w1.setCell ⟨b, 0, none⟩ (.int .i64 ns) = w2 at *
    go_loopw [26] (fun i wr => ∃ k : Nat, k ≤ xs.length ∧ i = .int .i64 k ∧ Hid (AutoAt wr b ns (doC cf tm xs (xs.take k) c) cf tm ∧ Keep (· = b) w wr ∧ IntsAt 3 w.heap.size wr (.slice (some ⟨bb, 0, none⟩) xs.length xs.length) xs)) (fun i _ => xs.length - (intOf i).toNat)
    case atStart => exact ⟨0, by omega, rfl, HA.out, HK.out, HV.out⟩
    case round =>
      obtain ⟨k, hk, rfl, hH⟩ := hrel
      obtain ⟨hat, hkp, hvv⟩ := hH.out
      have hbd := InB_out (doC_bd xs ⟨by omega, h2⟩ ⟨by omega, h4⟩ (xs.take k) c h5)
      obtain ⟨hcell, _⟩ := hvv.block
      by_cases hlt : k < xs.length
      · have hck := cell_of_block hcell k
        have hsn := Lib.hid (doC_snoc cf tm c xs k hlt)
        simp only [List.getElem?_toArray, List.getElem?_map, List.getElem?_eq_getElem hlt, Option.map_some] at hck
        have HCS := Lib.hid (cells_of_ints hvv)
        generalize hcc : doC cf tm xs (xs.take k) c = cc at *
        generalize hxk : xs[k] = x at *
        clear hcc hxk
        have hc1 := hat.c1
        have hc2 := hat.c2
        have hc3 := hat.c3
        have hf1 := hat.fz 1
        have HAT := Lib.hid hat
        have HKP := Lib.hid hkp
        have HVV := Lib.hid hvv
        clear hat hkp hvv hcell HA HK HV hH
        have hend : ∀ c', doStep cf tm xs cc x = c' → Hid (doC cf tm xs (xs.take (k + 1)) c = c') := fun c' h => by rw [hsn.out]; exact h
        by_cases x4 : x = 4
        · subst x4
          by_cases h9 : hasB xs 9 = true
          · have HE := hend tm (by simp only [doStep, h9]; simp)
            clear hend
            go_wp2_with (go_at_call 142; refine (has_any xs _ 9 _ (cells_of_ints (HVV.out.setB hlt0 1 _)) hlen).mono ?_; rintro en w' ⟨rfl, rfl⟩)
            go_round
            case rel => exact ⟨k + 1, by omega, by go_num, by rw [HE.out]; exact (HAT.out.set1 _).set1 _, (HKP.out.setB _ _).setB _ _, (HVV.out.setB hlt0 _ _).setB hlt0 _ _⟩
            case measure => simp [intOf]; omega
          · have h9' : hasB xs 9 = false := by simpa using h9
            have HE := hend cf (by simp only [doStep, h9']; simp)
            clear hend h9
            go_wp2_with (go_at_call 142; refine (has_any xs _ 9 _ (cells_of_ints (HVV.out.setB hlt0 1 _)) hlen).mono ?_; rintro en w' ⟨rfl, rfl⟩)
            go_round
            case rel => exact ⟨k + 1, by omega, by go_num, by rw [HE.out]; exact HAT.out.set1 _, HKP.out.setB _ _, HVV.out.setB hlt0 _ _⟩
            case measure => simp [intOf]; omega
        · by_cases x5 : x = 5
          · subst x5
            have HE := hend 0 (by simp [doStep])
            clear hend
            go_wp2_with fail
            go_round
            case rel => exact ⟨k + 1, by omega, by go_num, by rw [HE.out]; exact HAT.out.set1 _, HKP.out.setB _ _, HVV.out.setB hlt0 _ _⟩
            case measure => simp [intOf]; omega
          · by_cases x6 : x = 6
            · subst x6
              have HE := hend (if cc - 1 < 0 then 0 else cc - 1) (by simp [doStep])
              clear hend
              go_wp2_with fail
              go_round
              case rel => exact ⟨k + 1, by omega, by go_num, by rw [HE.out]; exact HAT.out.set1 _, HKP.out.setB _ _, HVV.out.setB hlt0 _ _⟩
              case measure => simp [intOf]; omega
            · by_cases x9 : x = 9
              · subst x9
                have HE := hend (if cc - 1 < 0 then 0 else cc - 1) (by simp [doStep])
                clear hend
                go_wp2_with fail
                go_round
                case rel => exact ⟨k + 1, by omega, by go_num, by rw [HE.out]; exact HAT.out.set1 _, HKP.out.setB _ _, HVV.out.setB hlt0 _ _⟩
                case measure => simp [intOf]; omega
              · have HE := hend cc (by simp [doStep, x4, x5, x6, x9])
                have e4 : (x == 4) = false := by simpa using x4
                have e5 : (x == 5) = false := by simpa using x5
                have e6 : (x == 6) = false := by simpa using x6
                have e9 : (x == 9) = false := by simpa using x9
                clear hend x4 x5 x6 x9
                go_wp2_with fail
                go_round
                case rel => exact ⟨k + 1, by omega, by go_num, by rw [HE.out]; exact HAT.out, HKP.out, HVV.out⟩
                case measure => simp [intOf]; omega
      · have hkx : k = xs.length := by omega
        have HKX := Lib.hid hkx
        have HAT := Lib.hid hat
        have HKP := Lib.hid hkp
        have HVV := Lib.hid hvv
        clear hat hkp hvv hcell HA HK HV hH hkx
        go_wp2_with fail
        go_ret
        have := HAT.out
        rw [HKX.out, List.take_length] at this
        exact ⟨_, rfl, HVV.out, this, HKP.out⟩

theorem nextL_le (s e : Int) : (nextL s e).length ≤ 3 := by
  have h : ∀ (l : List Row), (∀ r ∈ l, r.2.2.2.length ≤ 3) → ∀ y, lookupL l s e = some y → y.2.length ≤ 3 := by
    intro l
    induction l with
    | nil => intro _ y h; cases h
    | cons r l ih =>
      intro hl y hy
      simp only [lookupL, List.foldr_cons, Tab.put] at hy
      split at hy
      · cases hy; exact hl r (by simp)
      · exact ih (fun r' h' => hl r' (by simp [h'])) y hy
  unfold nextL
  cases hf : nextF s e with
  | none => simp
  | some y =>
    unfold nextF at hf
    cases ha : lookupL answeredL s e with
    | some y2 =>
      rw [ha] at hf; simp at hf; subst hf
      exact h _ (fun r hr => (rowsOk_spec (l := answeredL) (by decide) r hr).2.2) _ ha
    | none =>
      rw [ha] at hf; simp at hf
      exact h _ (fun r hr => (rowsOk_spec (l := calledL) (by decide) r hr).2.2) _ hf

theorem do_any (b : Nat) (s c cf tm e : Int) (w : World) (h : AutoAt w b s c cf tm) (h1 : 1 ≤ cf) (h2 : cf ≤ 20) (h3 : 1 ≤ tm) (h4 : tm ≤ 20) (h5 : InB c)
    (hs : (Lit.int .i64 s).wf = true) (he : (Lit.int .i64 e).wf = true) :
    Calls Tryz.prog 17 #[.pointer (some ⟨b, 0, none⟩), .int .i64 e] w fun en w' => ∃ v, en = .returned v ∧ IntsAt 3 w.heap.size w' v (nextL s e) ∧
      AutoAt w' b (nextS s e) (doC cf tm (nextL s e) (nextL s e) c) cf tm ∧ Keep (· = b) w w' :=
  do_core (nextS s e) (nextL s e) b s c cf tm e w h h1 h2 h3 h4 h5 (fun w => Lib.hid (next_any s e hs he w)) (Nat.le_trans (nextL_le s e) (by omega))

set_option maxHeartbeats 400000 in
theorem do_nil (e : Int) (w : World) :
    Calls Tryz.prog 17 #[.pointer none, .int .i64 e] w fun en w' => en = .returned (.slice none 0 0) ∧ w = w' := by
  go_enter Tryz.func17, Tryz.ntmps17
  go_wp2_with fail
  refine (none_nil _).mono ?_
  rintro en w0 ⟨rfl, rfl⟩
  go_wp2_with fail
  go_ret
  exact ⟨rfl, rfl⟩

def tmoE (s c : Int) : Option Int := if waitsB s = true then (if 0 < c then some 4 else some 5) else none
def tmoS (s c : Int) : Int := match tmoE s c with
  | some e => nextS s e
  | none => s
def tmoL (s c : Int) : List Int := match tmoE s c with
  | some e => nextL s e
  | none => []

set_option maxHeartbeats 400000 in
theorem timeout_any (b : Nat) (s c cf tm : Int) (w : World) (h : AutoAt w b s c cf tm) (h1 : 1 ≤ cf) (h2 : cf ≤ 20) (h3 : 1 ≤ tm) (h4 : tm ≤ 20) (h5 : InB c)
    (hs : (Lit.int .i64 s).wf = true) :
    Calls Tryz.prog 15 #[.pointer (some ⟨b, 0, none⟩)] w fun en w' => ∃ v, en = .returned v ∧ IntsAt 3 w.heap.size w' v (tmoL s c) ∧
      AutoAt w' b (tmoS s c) (doC cf tm (tmoL s c) (tmoL s c) c) cf tm ∧ Keep (· = b) w w' := by
  have hc1 := h.c1
  have HD4 := Lib.hid (do_any b s c cf tm 4 w h h1 h2 h3 h4 h5 hs (by decide))
  have HD5 := Lib.hid (do_any b s c cf tm 5 w h h1 h2 h3 h4 h5 hs (by decide))
  have HSS := Lib.hid hs
  clear hs
  cases hw : waitsB s with
  | false =>
    have e1 : tmoL s c = [] := by simp [tmoL, tmoE, hw]
    have e2 : tmoS s c = s := by simp [tmoS, tmoE, hw]
    rw [e1, e2]
    go_enter Tryz.func15, Tryz.ntmps15
    go_wp2_with fail
    refine (waits_some _ _ _ _ _ _ h h1).mono ?_
    rintro en w0 ⟨rfl, rfl⟩
    go_wp2_with fail
    go_ret
    exact ⟨_, rfl, Or.inl ⟨rfl, rfl⟩, h, Keep.refl _ _⟩
  | true =>
    by_cases hc : 0 < c
    · have e1 : tmoL s c = nextL s 4 := by simp [tmoL, tmoE, hw, hc]
      have e2 : tmoS s c = nextS s 4 := by simp [tmoS, tmoE, hw, hc]
      rw [e1, e2]
      go_enter Tryz.func15, Tryz.ntmps15
      go_wp2_with fail
      refine (waits_some _ _ _ _ _ _ h h1).mono ?_
      rintro en w0 ⟨rfl, rfl⟩
      go_wp2_with fail
      refine HD4.out.mono ?_
      rintro en w0 ⟨v, rfl, h6, h7, h8⟩
      go_wp2_with fail
      go_ret
      exact ⟨_, rfl, h6, h7, h8⟩
    · have e1 : tmoL s c = nextL s 5 := by simp [tmoL, tmoE, hw, hc]
      have e2 : tmoS s c = nextS s 5 := by simp [tmoS, tmoE, hw, hc]
      rw [e1, e2]
      go_enter Tryz.func15, Tryz.ntmps15
      go_wp2_with fail
      refine (waits_some _ _ _ _ _ _ h h1).mono ?_
      rintro en w0 ⟨rfl, rfl⟩
      go_wp2_with fail
      refine HD5.out.mono ?_
      rintro en w0 ⟨v, rfl, h6, h7, h8⟩
      go_wp2_with fail
      go_ret
      exact ⟨_, rfl, h6, h7, h8⟩
set_option maxHeartbeats 400000 in
theorem timeout_nil (w : World) :
    Calls Tryz.prog 15 #[.pointer none] w fun en w' => en = .returned (.slice none 0 0) ∧ w = w' := by
  go_enter Tryz.func15, Tryz.ntmps15
  go_wp2_with fail
  refine (waits_nil _).mono ?_
  rintro en w0 ⟨rfl, rfl⟩
  go_wp2_with fail
  go_ret
  exact ⟨rfl, rfl⟩
end Go.Proofs.YtignponfoheaeaaGreat
