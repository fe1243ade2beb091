import Derived.Test.YtbiaempeegfdkaaGreatPAE
import Derived.Deep.QuietTactic
import Derived.BigQuiet
set_option linter.unusedVariables false
set_option linter.unusedSimpArgs false
set_option maxHeartbeats 16000000
namespace Go.Proofs.YtbiaempeegfdkaaGreat
open Go.RowKit Go.Tg Go.Maps
def nextF : Tab := fun s e => (lookupL answeredL s e).or (lookupL calledL s e)
def nextS (s e : Int) : Int := match nextF s e with
 | some r => r.1
 | none => s
def nextL (s e : Int) : List Int := match nextF s e with
 | some r => r.2
 | none => []
set_option maxRecDepth 100000 in
theorem table_any (w : World) : Calls Tryz.prog 175 #[] w fun e w' => ∃ b, e = .returned (.map (some b)) /\ w.heap.size <= b /\
 TableAt Tryz.prog 213 3 w.heap.size w' b nextF /\ Below w.heap.size w w' := by
 go_enter Tryz.func175, Tryz.ntmps175; go_wp2_with fail; refine (called_any _).mono ?_; rintro e w1 ⟨b1, rfl, hb1, ht1, hbl1⟩; go_wp2_with fail; refine (answered_any _).mono ?_; rintro e w2 ⟨b2, rfl, hb2, ht2, hbl2⟩
 have hlt : b1 < w1.heap.size := by
  obtain ⟨_, _, h⟩ := ht1.map_block; exact (Array.getElem?_eq_some_iff.1 h).1
 have ht1' := ht1.below hbl2; have ht2' := ht2.mono hbl1.size; have hne : b1 ≠ b2 := by omega
 go_wp2_with fail; refine (copy_any w.heap.size b1 b2 _ _ _ hne ht1' ht2').mono ?_; rintro e w3 ⟨rfl, ht3, hk3⟩
 go_wp2
 go_ret; exact ⟨b1, rfl, hb1, ht3, (hbl1.trans (hbl2.mono hbl1.size)).trans (hk3.below (by have := hbl1.size; have := hbl2.size; omega) (by intro k hk; omega))⟩
set_option maxRecDepth 100000 in
theorem next_any (s e : Int) (hs : (Lit.int .i64 s).wf = true) (he : (Lit.int .i64 e).wf = true) (w : World) : Calls Tryz.prog 151 #[.int .i64 s, .int .i64 e] w fun en w' => ∃ v, en = .returned (.tuple #[.int .i64 (nextS s e), v]) /\
 IntsAt 3 w.heap.size w' v (nextL s e) /\ Below w.heap.size w w' := by
 have HS := H_ hs; have HE := H_ he; clear hs he; go_enter Tryz.func151, Tryz.ntmps151; go_wp2_with fail; refine (table_any _).mono ?_; rintro en w1 ⟨b, rfl, hb, ⟨m, hm, h1, h2⟩, hbl⟩; have H1 := H_ h1; have H2 := H_ h2; clear h1 h2; have hkv := kv48 s e HS.out HE.out; have HKV := H_ hkv; clear hkv; have hz : ∀ w, (zeroValue 208).run Tryz.prog w = .ok (.agg #[.int .i64 0, .slice none 0 0]) w := tabT.zE
 cases hmk : m (keyV s e) with
 | none =>
  have hf : nextF s e = none := by
   cases hf : nextF s e with
   | none => rfl
   | some y =>
    obtain ⟨v, hv⟩ := H2.out s e y.1 y.2 hf; rw [hmk] at hv; cases hv
  have HF := H_ hf; have HMK := H_ hmk; clear hf hmk
  go_wp2_with (first | (at_lookup; refine wpl_lookup _ rfl _ _ 210 213 208 true rfl keyed48 Tryz.underlying210 b m rfl hm (.agg #[.int .i64 s, .int .i64 e]) (.agg #[.int .i64 0, .slice none 0 0]) rfl HKV.out (hz _) ?_; rw [show m (.agg #[.int .i64 s, .int .i64 e]) = none from HMK.out]))
  go_ret2; have e1 : nextS s e = s := by unfold nextS; rw [HF.out]
  have e2 : nextL s e = [] := by unfold nextL; rw [HF.out]
  rw [e1, e2]; exact ⟨_, rfl, Or.inl ⟨rfl, rfl⟩, hbl.alloc hbl.size _⟩
 | some v =>
  obtain ⟨s', e', n, sl, xs, h3, h4, h5, h6⟩ := H1.out _ v hmk; obtain ⟨rfl, rfl⟩ := keyV_inj h3
  obtain ⟨sa, sn, sc, rfl⟩ : ∃ sa sn sc, sl = .slice sa sn sc := by
   rcases h6 with ⟨_, h6⟩ | ⟨b, _, h6, _⟩
   . exact ⟨_, _, _, h6⟩
   . exact ⟨_, _, _, h6⟩
  subst h5; have HF := H_ h4; have HMK := H_ hmk; have H6 := H_ h6; clear h4 hmk h3 h6
  go_wp2_with (first | (at_lookup; refine wpl_lookup _ rfl _ _ 210 213 208 true rfl keyed48 Tryz.underlying210 b m rfl hm (.agg #[.int .i64 s, .int .i64 e]) (.agg #[.int .i64 0, .slice none 0 0]) rfl HKV.out (hz _) ?_; rw [show m (.agg #[.int .i64 s, .int .i64 e]) = some (.agg #[.int .i64 n, .slice sa sn sc]) from HMK.out]))
  go_quiet (fail)
  rename_i nq
  go_wp2
  go_ret2; have e1 : nextS s e = n := by unfold nextS; rw [HF.out]
  have e2 : nextL s e = xs := by unfold nextL; rw [HF.out]
  rw [e1, e2]; exact ⟨_, rfl, H6.out.below (belowN ((Below.refl _ _).alloc (Nat.le_refl _) _) nq), belowN (hbl.alloc hbl.size _) nq⟩
def AutoAt (w : World) (b : Nat) (s c cf tm : Int) : Prop := w.heap[b]? = some (.cells #[.int .i64 s, .int .i64 c, .int .i64 cf, .int .i64 tm] 158 (0, 0))
theorem cell_of_block {w : World} {b : Nat} {cs : Array Value} {T : TypeId} {z : Nat × Nat} (h : w.heap[b]? = some (.cells cs T z)) (o : Nat) : w.cell? ⟨b, o, none⟩ = cs[o]? := by
 simp [World.cell?, h]
theorem frozen_of_block {w : World} {b : Nat} {cs : Array Value} {T : TypeId} (h : w.heap[b]? = some (.cells cs T (0, 0))) (o : Nat) : w.frozen? ⟨b, o, none⟩ = false := by
 simp [World.frozen?, h]
theorem set_block {w : World} {b : Nat} {cs : Array Value} {T : TypeId} {z : Nat × Nat} (h : w.heap[b]? = some (.cells cs T z)) (o : Nat) (v : Value) :
 (w.setCell ⟨b, o, none⟩ v).heap[b]? = some (.cells (cs.setIfInBounds o v) T z) := by
 simp [World.setCell, Array.getElem?_modify, h]
section
variable {w : World} {b : Nat} {s c cf tm : Int}
theorem AutoAt.c0 (h : AutoAt w b s c cf tm) : w.cell? ⟨b, 0, none⟩ = some (.int .i64 s) := cell_of_block h 0
theorem AutoAt.c1 (h : AutoAt w b s c cf tm) : w.cell? ⟨b, 1, none⟩ = some (.int .i64 c) := cell_of_block h 1
theorem AutoAt.c2 (h : AutoAt w b s c cf tm) : w.cell? ⟨b, 2, none⟩ = some (.int .i64 cf) := cell_of_block h 2
theorem AutoAt.c3 (h : AutoAt w b s c cf tm) : w.cell? ⟨b, 3, none⟩ = some (.int .i64 tm) := cell_of_block h 3
theorem AutoAt.fz (h : AutoAt w b s c cf tm) (o : Nat) : w.frozen? ⟨b, o, none⟩ = false := frozen_of_block h o
theorem AutoAt.lt (h : AutoAt w b s c cf tm) : b < w.heap.size := (Array.getElem?_eq_some_iff.1 h).1
theorem AutoAt.set0 (h : AutoAt w b s c cf tm) (s' : Int) : AutoAt (w.setCell ⟨b, 0, none⟩ (.int .i64 s')) b s' c cf tm := set_block h 0 _
theorem AutoAt.set1 (h : AutoAt w b s c cf tm) (c' : Int) : AutoAt (w.setCell ⟨b, 1, none⟩ (.int .i64 c')) b s c' cf tm := set_block h 1 _
theorem AutoAt.keep {S : Nat -> Prop} {w' : World} (h : AutoAt w b s c cf tm) (hk : Keep S w w') (hs : ¬ S b) : AutoAt w' b s c cf tm := (hk.block b h.lt hs).trans h
theorem AutoAt.below {w' : World} (h : AutoAt w b s c cf tm) (hk : Below w.heap.size w w') : AutoAt w' b s c cf tm := (hk.block b h.lt).trans h
end
theorem none_some (b : Nat) (s c cf tm : Int) (w : World) (h : AutoAt w b s c cf tm) (h0 : 1 <= cf) :
 Calls Tryz.prog 118 #[.pointer (some ⟨b, 0, none⟩)] w fun e w' => e = .returned (.bool false) /\ w = w' := by
 have hc := h.c2; go_enter Tryz.func118, Tryz.ntmps118
 go_wp2
 go_ret; exact ⟨by simp; omega, rfl⟩
theorem state_some (b : Nat) (s c cf tm : Int) (w : World) (h : AutoAt w b s c cf tm) (h0 : 1 <= cf) :
 Calls Tryz.prog 135 #[.pointer (some ⟨b, 0, none⟩)] w fun e w' => e = .returned (.int .i64 s) /\ w = w' := by
 have hc := h.c0; go_enter Tryz.func135, Tryz.ntmps135
 go_wp2_with (go_at_call 118; refine (none_some _ _ _ _ _ _ h h0).mono ?_; rintro e w' ⟨rfl, rfl⟩)
 go_ret; exact ⟨rfl, rfl⟩
def waitsB (s : Int) : Bool := decide (4 <= s) && decide (s <= 8)
theorem waits_some (b : Nat) (s c cf tm : Int) (w : World) (h : AutoAt w b s c cf tm) (h0 : 1 <= cf) :
 Calls Tryz.prog 80 #[.pointer (some ⟨b, 0, none⟩)] w fun e w' => e = .returned (.bool (waitsB s)) /\ w = w' := by
 have hc := h.c0
 by_cases h1 : 4 <= s
 . by_cases h2 : s <= 8
   . go_enter Tryz.func80, Tryz.ntmps80
     go_wp2_with (go_at_call 118; refine (none_some _ _ _ _ _ _ h h0).mono ?_; rintro e w' ⟨rfl, rfl⟩)
     go_ret; exact ⟨by simp [waitsB, h1, h2], rfl⟩
   . go_enter Tryz.func80, Tryz.ntmps80
     go_wp2_with (go_at_call 118; refine (none_some _ _ _ _ _ _ h h0).mono ?_; rintro e w' ⟨rfl, rfl⟩)
     go_ret; exact ⟨by simp [waitsB]; omega, rfl⟩
 . go_enter Tryz.func80, Tryz.ntmps80
   go_wp2_with (go_at_call 118; refine (none_some _ _ _ _ _ _ h h0).mono ?_; rintro e w' ⟨rfl, rfl⟩)
   go_ret; exact ⟨by simp [waitsB]; omega, rfl⟩
def hasB (xs : List Int) (x : Int) : Bool := xs.contains x
def Has (xs : List Int) (x r : Int) : Prop := decide (0 <= r) = hasB xs x
def Cells (w : World) (v : Value) (xs : List Int) : Prop :=
 (xs = [] /\ v = .slice none 0 0) \/ ∃ b, v = .slice (some ⟨b, 0, none⟩) xs.length xs.length /\ ∀ (i : Nat) (h : i < xs.length), w.cell? ⟨b, i, none⟩ = some (.int .i64 xs[i])
theorem cells_of_ints {B : Nat} {w : World} {v : Value} {xs : List Int} (h : IntsAt 3 B w v xs) : Cells w v xs := by
 rcases h with h | ⟨b, h1, h2, h3⟩
 . exact Or.inl h
 . refine Or.inr ⟨b, h2, fun i hi => ?_⟩; rw [cell_of_block h3]; simp [hi]
set_option maxRecDepth 100000 in
theorem contains_any (xs : List Int) (v : Value) (x : Int) (w : World) (h : Cells w v xs) (hl : xs.length <= 1000) :
 Calls Tryz.prog 176 #[v, .int .i64 x] w fun e w' => ∃ r, e = .returned (.int .i64 r) /\ Has xs x r /\ w = w' := by
 rcases h with ⟨rfl, rfl⟩ | ⟨b, rfl, hc⟩
 . go_enter Tryz.func176, Tryz.ntmps176
   go_wp2
   refine wp_loop_rounds 1 ?_; rw [rounds_succ]
   go_wp2
   go_ret; exact ⟨-1, rfl, rfl, rfl⟩
 . have HC := H_ hc; clear hc; go_enter Tryz.func176, Tryz.ntmps176
   go_wp2
   go_loop [8] (fun i => ∃ k : Nat, k <= xs.length /\ i = .int .i64 k /\ Hid (∀ (j : Nat) (h : j < xs.length), j < k -> xs[j] ≠ x)) (fun i => xs.length - (intOf i).toNat)
   case atStart => exact ⟨0, by omega, rfl, fun j _ h => by omega⟩
   case round =>
    obtain ⟨k, hk, rfl, hno⟩ := hrel
    by_cases hlt : k < xs.length
    . have hck := HC.out k hlt
      by_cases hx : x = xs[k]
      . have hxb : (x == xs[k]) = true := by simpa using hx
        have HX := H_ hx; clear hx
        go_wp2
        go_ret; refine ⟨k, rfl, ?_, rfl⟩; have : hasB xs x = true := by unfold hasB; rw [List.contains_iff_mem, HX.out]; exact List.getElem_mem hlt
        unfold Has; rw [this]; simp
      . have hxb : (x == xs[k]) = false := by simpa using hx
        have HX := H_ hx; clear hx
        go_wp2
        go_round
        case rel =>
         refine ⟨k + 1, by omega, by go_num, fun j hj hjk => ?_⟩
         rcases Nat.lt_or_ge j k with h | h
         . exact hno.out j hj h
         . obtain rfl : j = k := by omega
           exact fun e => HX.out e.symm
        case measure => simp [intOf]; omega
    . go_wp2
      go_ret; refine ⟨-1, rfl, ?_, rfl⟩
      have : hasB xs x = false := by
       unfold hasB
       cases hc : xs.contains x with
       | false => rfl
       | true =>
        rw [List.contains_iff_mem] at hc; obtain ⟨j, hj, he⟩ := List.getElem_of_mem hc; exact absurd he (hno.out j hj (by omega))
      unfold Has; rw [this]; rfl
theorem has_any (xs : List Int) (v : Value) (x : Int) (w : World) (h : Cells w v xs) (hl : xs.length <= 1000) :
 Calls Tryz.prog 152 #[v, .int .i64 x] w fun e w' => e = .returned (.bool (hasB xs x)) /\ w = w' := by
 go_enter Tryz.func152, Tryz.ntmps152; go_wp2_with fail; refine (contains_any xs v x _ h hl).mono ?_; rintro e w' ⟨r, rfl, hr, rfl⟩
 go_wp2
 go_ret; exact ⟨by rw [<- show decide (0 <= r) = hasB xs x from hr]; rfl, rfl⟩
def doStep (cf tm : Int) (xs : List Int) (c x : Int) : Int :=
 if x = 4 then (if hasB xs 9 then tm else cf) else if x = 5 then 0 else if x = 6 \/ x = 9 then (if c - 1 < 0 then 0 else c - 1) else c
def doC (cf tm : Int) (xs ys : List Int) (c : Int) : Int := ys.foldl (doStep cf tm xs) c
def InB (x : Int) : Prop := 0 <= x /\ x <= 20
theorem doStep_bd {cf tm c : Int} (xs : List Int) (x : Int) (h1 : InB cf) (h2 : InB tm) (h3 : InB c) : InB (doStep cf tm xs c x) := by
 unfold doStep InB at *
 repeat' split
 all_goals omega
theorem doC_bd {cf tm : Int} (xs : List Int) (h1 : InB cf) (h2 : InB tm) : ∀ (ys : List Int) (c : Int), InB c -> InB (doC cf tm xs ys c) := by
 intro ys
 induction ys with
 | nil => intro c h; exact h
 | cons y ys ih => intro c h; exact ih _ (doStep_bd xs y h1 h2 h)
theorem doC_snoc (cf tm c : Int) (xs : List Int) (k : Nat) (h : k < xs.length) : doC cf tm xs (xs.take (k + 1)) c = doStep cf tm xs (doC cf tm xs (xs.take k) c) xs[k] := by
 unfold doC; rw [List.take_succ_eq_append_getElem h, List.foldl_append]; rfl
theorem InB_out {c : Int} (h : InB c) : 0 <= c /\ c <= 20 := h
set_option maxRecDepth 100000 in
theorem do_core (ns : Int) (xs : List Int) (b : Nat) (s c cf tm e : Int) (w : World) (h : AutoAt w b s c cf tm) (h1 : 1 <= cf) (h2 : cf <= 20) (h3 : 1 <= tm) (h4 : tm <= 20) (h5 : InB c)
 (HN : ∀ w, Hid (Calls Tryz.prog 151 #[.int .i64 s, .int .i64 e] w fun en w' => ∃ v, en = .returned (.tuple #[.int .i64 ns, v]) /\ IntsAt 3 w.heap.size w' v xs /\ Below w.heap.size w w')) (hlen : xs.length <= 1000) :
 Calls Tryz.prog 120 #[.pointer (some ⟨b, 0, none⟩), .int .i64 e] w fun en w' => ∃ v, en = .returned v /\ IntsAt 3 w.heap.size w' v xs /\
  AutoAt w' b ns (doC cf tm xs xs c) cf tm /\ Keep (· = b) w w' := by
 have hc0 := h.c0; go_enter Tryz.func120, Tryz.ntmps120; go_wp2_with fail; refine (none_some _ _ _ _ _ _ h h1).mono ?_; rintro en w0 ⟨rfl, rfl⟩; go_wp2_with fail; refine (HN w).out.mono ?_; rintro en w1 ⟨v, rfl, hv, hbl⟩; have ha1 := h.below hbl; have hf1 := ha1.fz 0; have hc1 := ha1.c0; clear HN; have hlt0 := h.lt; have hlt1 := ha1.lt; have hv' := hv
 rcases hv with ⟨rfl, rfl⟩ | ⟨bb, hbb, rfl, hblk⟩
 . go_wp2
   refine wp_loop_rounds 1 ?_; rw [rounds_succ]
   go_wp2
   go_ret; exact ⟨_, rfl, Or.inl ⟨rfl, rfl⟩, ha1.set0 _, (Keep.of_below (· = b) hbl).setB _ _⟩
 . go_wp2
   have HA := H_ (ha1.set0 ns); have HK := H_ ((Keep.of_below (· = b) hbl).setCell ⟨b, 0, none⟩ (Or.inr rfl) (.int .i64 ns)); have HV := H_ (hv'.keep ((Keep.refl (· = b) w1).setCell ⟨b, 0, none⟩ (Or.inr rfl) (.int .i64 ns)) (fun b' o hb' hS => by subst hS; omega)); clear ha1 hf1 hc1 hv' hblk hbl h hc0; generalize w1.setCell ⟨b, 0, none⟩ (.int .i64 ns) = w2 at *
   go_loopw [26] (fun i wr => ∃ k : Nat, k <= xs.length /\ i = .int .i64 k /\ Hid (AutoAt wr b ns (doC cf tm xs (xs.take k) c) cf tm /\ Keep (· = b) w wr /\ IntsAt 3 w.heap.size wr (.slice (some ⟨bb, 0, none⟩) xs.length xs.length) xs)) (fun i _ => xs.length - (intOf i).toNat)
   case atStart => exact ⟨0, by omega, rfl, HA.out, HK.out, HV.out⟩
   case round =>
    obtain ⟨k, hk, rfl, hH⟩ := hrel; obtain ⟨hat, hkp, hvv⟩ := hH.out; have hbd := InB_out (doC_bd xs ⟨by omega, h2⟩ ⟨by omega, h4⟩ (xs.take k) c h5); obtain ⟨hcell, _⟩ := hvv.block
    by_cases hlt : k < xs.length
    . have hck := cell_of_block hcell k; have hsn := H_ (doC_snoc cf tm c xs k hlt); simp only [List.getElem?_toArray, List.getElem?_map, List.getElem?_eq_getElem hlt, Option.map_some] at hck; have HCS := H_ (cells_of_ints hvv); generalize hcc : doC cf tm xs (xs.take k) c = cc at *; generalize hxk : xs[k] = x at *; clear hcc hxk; have hc1 := hat.c1; have hc2 := hat.c2; have hc3 := hat.c3; have hf1 := hat.fz 1; have HAT := H_ hat; have HKP := H_ hkp; have HVV := H_ hvv; clear hat hkp hvv hcell HA HK HV hH; have hend : ∀ c', doStep cf tm xs cc x = c' -> Hid (doC cf tm xs (xs.take (k + 1)) c = c') := fun c' h => by rw [hsn.out]; exact h
      by_cases x4 : x = 4
      . subst x4
        by_cases h9 : hasB xs 9 = true
        . have HE := hend tm (by simp only [doStep, h9]; simp); clear hend
          go_wp2_with (go_at_call 152; refine (has_any xs _ 9 _ (cells_of_ints (HVV.out.setB hlt0 1 _)) hlen).mono ?_; rintro en w' ⟨rfl, rfl⟩)
          go_round
          case rel => exact ⟨k + 1, by omega, by go_num, by rw [HE.out]; exact (HAT.out.set1 _).set1 _, (HKP.out.setB _ _).setB _ _, (HVV.out.setB hlt0 _ _).setB hlt0 _ _⟩
          case measure => simp [intOf]; omega
        . have h9' : hasB xs 9 = false := by simpa using h9
          have HE := hend cf (by simp only [doStep, h9']; simp); clear hend h9
          go_wp2_with (go_at_call 152; refine (has_any xs _ 9 _ (cells_of_ints (HVV.out.setB hlt0 1 _)) hlen).mono ?_; rintro en w' ⟨rfl, rfl⟩)
          go_round
          case rel => exact ⟨k + 1, by omega, by go_num, by rw [HE.out]; exact HAT.out.set1 _, HKP.out.setB _ _, HVV.out.setB hlt0 _ _⟩
          case measure => simp [intOf]; omega
      . by_cases x5 : x = 5
        . subst x5; have HE := hend 0 (by simp [doStep]); clear hend; go_wp2_with fail
          go_round
          case rel => exact ⟨k + 1, by omega, by go_num, by rw [HE.out]; exact HAT.out.set1 _, HKP.out.setB _ _, HVV.out.setB hlt0 _ _⟩
          case measure => simp [intOf]; omega
        . by_cases x6 : x = 6
          . subst x6; have HE := hend (if cc - 1 < 0 then 0 else cc - 1) (by simp [doStep]); clear hend; go_wp2_with fail
            go_round
            case rel => exact ⟨k + 1, by omega, by go_num, by rw [HE.out]; exact HAT.out.set1 _, HKP.out.setB _ _, HVV.out.setB hlt0 _ _⟩
            case measure => simp [intOf]; omega
          . by_cases x9 : x = 9
            . subst x9; have HE := hend (if cc - 1 < 0 then 0 else cc - 1) (by simp [doStep]); clear hend; go_wp2_with fail
              go_round
              case rel => exact ⟨k + 1, by omega, by go_num, by rw [HE.out]; exact HAT.out.set1 _, HKP.out.setB _ _, HVV.out.setB hlt0 _ _⟩
              case measure => simp [intOf]; omega
            . have HE := hend cc (by simp [doStep, x4, x5, x6, x9]); have e4 : (x == 4) = false := by simpa using x4
              have e5 : (x == 5) = false := by simpa using x5
              have e6 : (x == 6) = false := by simpa using x6
              have e9 : (x == 9) = false := by simpa using x9
              clear hend x4 x5 x6 x9; go_wp2_with fail
              go_round
              case rel => exact ⟨k + 1, by omega, by go_num, by rw [HE.out]; exact HAT.out, HKP.out, HVV.out⟩
              case measure => simp [intOf]; omega
    . have hkx : k = xs.length := by omega
      have HKX := H_ hkx; have HAT := H_ hat; have HKP := H_ hkp; have HVV := H_ hvv; clear hat hkp hvv hcell HA HK HV hH hkx; go_wp2_with fail; go_ret; have := HAT.out; rw [HKX.out, List.take_length] at this; exact ⟨_, rfl, HVV.out, this, HKP.out⟩
theorem nextL_le (s e : Int) : (nextL s e).length <= 3 := by
 have h : ∀ (l : List Row), (∀ r ∈ l, r.2.2.2.length <= 3) -> ∀ y, lookupL l s e = some y -> y.2.length <= 3 := by
  intro l
  induction l with
  | nil => intro _ y h; cases h
  | cons r l ih =>
   intro hl y hy; simp only [lookupL, List.foldr_cons, Tab.put] at hy
   split at hy
   . cases hy; exact hl r (by simp)
   . exact ih (fun r' h' => hl r' (by simp [h'])) y hy
 unfold nextL
 cases hf : nextF s e with
 | none => simp
 | some y =>
  unfold nextF at hf
  cases ha : lookupL answeredL s e with
  | some y2 =>
   rw [ha] at hf; simp at hf; subst hf; exact h _ (fun r hr => (rowsOk_spec (l := answeredL) (by decide) r hr).2.2) _ ha
  | none =>
   rw [ha] at hf; simp at hf; exact h _ (fun r hr => (rowsOk_spec (l := calledL) (by decide) r hr).2.2) _ hf
theorem do_any (b : Nat) (s c cf tm e : Int) (w : World) (h : AutoAt w b s c cf tm) (h1 : 1 <= cf) (h2 : cf <= 20) (h3 : 1 <= tm) (h4 : tm <= 20) (h5 : InB c)
 (hs : (Lit.int .i64 s).wf = true) (he : (Lit.int .i64 e).wf = true) :
 Calls Tryz.prog 120 #[.pointer (some ⟨b, 0, none⟩), .int .i64 e] w fun en w' => ∃ v, en = .returned v /\ IntsAt 3 w.heap.size w' v (nextL s e) /\
  AutoAt w' b (nextS s e) (doC cf tm (nextL s e) (nextL s e) c) cf tm /\ Keep (· = b) w w' :=
 do_core (nextS s e) (nextL s e) b s c cf tm e w h h1 h2 h3 h4 h5 (fun w => H_ (next_any s e hs he w)) (Nat.le_trans (nextL_le s e) (by omega))
def tmoE (s c : Int) : Option Int := if waitsB s = true then (if 0 < c then some 4 else some 5) else none
def tmoS (s c : Int) : Int := match tmoE s c with
 | some e => nextS s e
 | none => s
def tmoL (s c : Int) : List Int := match tmoE s c with
 | some e => nextL s e
 | none => []
def inB20 (n : Int) : Bool := decide (1 <= n) && decide (n <= 20)
theorem inB20_true {n : Int} : inB20 n = true ↔ 1 <= n /\ n <= 20 := by simp [inB20]
theorem new1_any (n : Int) (w : World) : Calls Tryz.prog 153 #[.int .i64 n] w fun e w' => e = .returned (.bool (inB20 n)) /\ w = w' := by
 by_cases h1 : 1 <= n
 . by_cases h2 : n <= 20
   . go_enter Tryz.func153, Tryz.ntmps153
     go_wp2
     go_ret; exact ⟨by simp [inB20, h1, h2], rfl⟩
   . go_enter Tryz.func153, Tryz.ntmps153
     go_wp2
     go_ret; exact ⟨by simp [inB20, h1]; omega, rfl⟩
 . go_enter Tryz.func153, Tryz.ntmps153
   go_wp2
   go_ret; exact ⟨by simp [inB20]; omega, rfl⟩
theorem new_ok (c t : Int) (w : World) (hc : inB20 c = true) (ht : inB20 t = true) :
 Calls Tryz.prog 121 #[.int .i64 c, .int .i64 t] w fun e w' => e = .returned (.tuple #[.pointer (some ⟨w.heap.size, 0, none⟩), .int .i64 0]) /\ AutoAt w' w.heap.size 0 0 c t /\ Keep (fun _ => False) w w' := by
 go_enter Tryz.func121, Tryz.ntmps121; go_wp2_with fail; refine (new1_any _ _).mono ?_; rintro en w0 ⟨rfl, rfl⟩; go_wp2_with fail; refine (new1_any _ _).mono ?_; rintro en w0 ⟨rfl, rfl⟩; go_wp2_with fail; go_ret2; exact ⟨rfl, by show (w.heap.push _)[_]? = _; simp, (Keep.refl _ _).alloc _⟩
end Go.Proofs.YtbiaempeegfdkaaGreat
