import Derived.Test.YtoblffnlopmebaaGreatQAH
import Derived.Shelf.Abstract
import Derived.Lib.Walk
set_option linter.unusedVariables false
set_option linter.unusedSimpArgs false
set_option maxHeartbeats 16000000
namespace Go.Proofs.YtoblffnlopmebaaGreat
open Go.RowKit Go.Tg Go.Maps
def idxP {α : Type} (p : α -> Bool) (l : List α) : Int := match l.findIdx? p with
 | some i => (i : Int)
 | none => -1
theorem idxP_hit {α : Type} (p : α -> Bool) (l : List α) (k : Nat) (hk : k < l.length) (h : p l[k] = true) (hb : ∀ j (hj : j < l.length), j < k -> p l[j] = false) : idxP p l = (k : Int) := by
 unfold idxP
 have : l.findIdx? p = some k := by
  rw [List.findIdx?_eq_some_iff_getElem]; exact ⟨hk, h, fun j hj => by simpa using hb j (by omega) hj⟩
 rw [this]
theorem idxP_miss {α : Type} (p : α -> Bool) (l : List α) (hb : ∀ j (hj : j < l.length), p l[j] = false) : idxP p l = -1 := by
 unfold idxP
 have : l.findIdx? p = none := by
  rw [List.findIdx?_eq_none_iff]; intro x hx; obtain ⟨j, hj, rfl⟩ := List.mem_iff_getElem.1 hx; exact hb j hj
 rw [this]
theorem Opts.at {w : World} {ok : Nat -> Prop} {sa : Option Addr} {n c : Nat} {l : List Opt} (h : Opts w ok (.slice sa n c) l) (i : Nat) (hi : i < l.length) :
 ∃ b off, sa = some ⟨b, off, none⟩ /\ b < w.heap.size /\ ok b /\ n = l.length /\ n <= c /\ c <= maxLen /\ w.cell? ⟨b, off + i * 2, none⟩ = some (.int .i64 l[i].t) /\ w.cell? ⟨b, off + i * 2 + 1, none⟩ = some (.string l[i].v) := by
 obtain ⟨b, off, h1, h2, h3, h4, h5, h6, h7⟩ := Rec.at h i (by rw [optL_len]; exact hi); rw [optL_len] at h4; have e : (optL l)[i]'(by rw [optL_len]; exact hi) = l[i].cells := by simp [optL]
 refine ⟨b, off, h1, h2, h3, h4, h5, h6, h7 0 _ (by rw [e]; rfl), h7 1 _ (by rw [e]; rfl)⟩
theorem Rls.at {w : World} {ok : Nat -> Prop} {sa : Option Addr} {n c : Nat} {l : List Rl} (h : Rls w ok (.slice sa n c) l) (i : Nat) (hi : i < l.length) :
 ∃ b off, sa = some ⟨b, off, none⟩ /\ b < w.heap.size /\ ok b /\ n = l.length /\ n <= c /\ c <= maxLen /\ w.cell? ⟨b, off + i * 5, none⟩ = some (.int .i64 l[i].t) /\ w.cell? ⟨b, off + i * 5 + 1, none⟩ = some (.int .i64 l[i].len) /\
  w.cell? ⟨b, off + i * 5 + 2, none⟩ = some (.int .i64 l[i].min) /\ w.cell? ⟨b, off + i * 5 + 3, none⟩ = some (.int .i64 l[i].max) /\ w.cell? ⟨b, off + i * 5 + 4, none⟩ = some (.string l[i].s) := by
 obtain ⟨b, off, h1, h2, h3, h4, h5, h6, h7⟩ := Rec.at h i (by rw [rlL_len]; exact hi); rw [rlL_len] at h4; have e : (rlL l)[i]'(by rw [rlL_len]; exact hi) = l[i].cells := by simp [rlL]
 refine ⟨b, off, h1, h2, h3, h4, h5, h6, h7 0 _ (by rw [e]; rfl), h7 1 _ (by rw [e]; rfl), h7 2 _ (by rw [e]; rfl), h7 3 _ (by rw [e]; rfl), h7 4 _ (by rw [e]; rfl)⟩
theorem Opts.form {w : World} {ok : Nat -> Prop} {v : Value} {l : List Opt} (h : Opts w ok v l) : ∃ sa c, v = .slice sa l.length c /\ l.length <= c /\ c <= maxLen := by
 have := Rec.form h
 rwa [optL_len] at this
theorem Rls.form {w : World} {ok : Nat -> Prop} {v : Value} {l : List Rl} (h : Rls w ok v l) : ∃ sa c, v = .slice sa l.length c /\ l.length <= c /\ c <= maxLen := by
 have := Rec.form h
 rwa [rlL_len] at this
theorem Opts.below {w w' : World} {ok : Nat -> Prop} {v : Value} {l : List Opt} (h : Opts w ok v l) (hb : Below w.heap.size w w') : Opts w' ok v l := Rec.keep h (Keep.of_below (fun _ => False) hb) (fun _ _ _ h => h)
theorem Rls.below {w w' : World} {ok : Nat -> Prop} {v : Value} {l : List Rl} (h : Rls w ok v l) (hb : Below w.heap.size w w') : Rls w' ok v l := Rec.keep h (Keep.of_below (fun _ => False) hb) (fun _ _ _ h => h)
set_option maxRecDepth 100000 in
theorem idxO_any (l : List Opt) (lv : Value) (ok : Nat -> Prop) (g : Nat) (lb : Array Value) (p : Opt -> Bool) (w : World) (hl : Opts w ok lv l) (hmax : l.length <= 1000000) (eg : ∀ args w, (callFunc g args).run Tryz.prog w = .ok (.enter g args) w)
 (hp : ∀ (W : World) (o : Opt), o ∈ l -> Below w.heap.size w W -> Calls Tryz.prog g (#[.agg #[.int .i64 o.t, .string o.v]] ++ lb) W fun e w' => e = .returned (.bool (p o)) /\ Below w.heap.size w w') :
 Calls Tryz.prog 198 #[lv, .func (.func g) #[] lb] w fun e w' => e = .returned (.int .i64 (idxP p l)) /\ Below w.heap.size w w' := by
 obtain ⟨sa, c, rfl, hc, hm⟩ := hl.form; have HL := H_ hl; have HP := H_ hp; obtain ⟨len, hln⟩ : ∃ len, len = l.length := ⟨_, rfl⟩; have HLN := H_ hln; rw [<- hln] at hc hmax ⊢; unfold maxLen at hm; clear hl hp hln; go_enter Tryz.func198, Tryz.ntmps198; go_wp2_with fail
 go_loopg [8] len (fun x i wr => ∃ k : Nat, k <= len /\ x = len - k /\ i = .int .i64 k /\ Hid (Below w.heap.size w wr /\ ∀ j (hj : j < l.length), j < k -> p l[j] = false))
 case atStart => exact ⟨0, by omega, by omega, rfl, Below.refl _ _, fun j _ h => absurd h (Nat.not_lt_zero _)⟩
 case round =>
  obtain ⟨k, hk, rfl, rfl, hK⟩ := hrel; have HK := H_ hK.out; clear hK
  by_cases hkl : k < len
  . have hkl' : k < l.length := by have := HLN.out; omega
    obtain ⟨b, off, rfl, hb, -, -, -, -, c0, c1⟩ := HL.out.at k hkl'; have d0 : wr.cell? ⟨b, off + k * 2, none⟩ = _ := (HK.out.1.cell (p := ⟨b, off + k * 2, none⟩) hb).trans c0; have d1 : wr.cell? ⟨b, off + k * 2 + 1, none⟩ = _ := (HK.out.1.cell (p := ⟨b, off + k * 2 + 1, none⟩) hb).trans c1; have hcall := HP.out wr l[k] (List.getElem_mem _) HK.out.1; have HH := H_ (idxP_hit p l k hkl')
    have HB : Hid (∀ (y : Bool), p l[k] = y -> y = false -> ∀ j (hj : j < l.length), j < k + 1 -> p l[j] = false) := H_ (by
     intro y hy hf j hj hlt
     rcases Nat.lt_or_ge j k with h | h
     . exact HK.out.2 j hj h
     . obtain rfl : j = k := by omega
       rw [hy, hf])
    clear c0 c1; generalize hq : p l[k] = y at hcall HH HB; clear hq; generalize l[k] = o at *; obtain ⟨t, v⟩ := o; simp only at d0 d1 hcall
    cases y with
    | true =>
     go_wp2_with (go_at_fn g; refine hcall.mono ?_; rintro e w' ⟨rfl, hb'⟩)
     go_ret; exact ⟨by rw [HH.out (by first | exact trivial | rfl) HK.out.2]; rfl, hb'⟩
    | false =>
     go_wp2_with (go_at_fn g; refine hcall.mono ?_; rintro e w' ⟨rfl, hb'⟩)
     go_roundg (len - (k + 1))
     case measure => omega
     case rel => exact ⟨k + 1, by omega, rfl, by go_num, hb', HB.out false rfl rfl⟩
  . go_wp2_with fail; go_ret; exact ⟨by rw [idxP_miss p l (fun j hj => HK.out.2 j hj (by have := HLN.out; omega))]; rfl, HK.out.1⟩
set_option maxRecDepth 100000 in
theorem idxR_any (l : List Rl) (lv : Value) (ok : Nat -> Prop) (g : Nat) (lb : Array Value) (p : Rl -> Bool) (w : World) (hl : Rls w ok lv l) (hmax : l.length <= 1000000) (eg : ∀ args w, (callFunc g args).run Tryz.prog w = .ok (.enter g args) w)
 (hp : ∀ (W : World) (o : Rl), o ∈ l -> Below w.heap.size w W -> Calls Tryz.prog g (#[.agg #[.int .i64 o.t, .int .i64 o.len, .int .i64 o.min, .int .i64 o.max, .string o.s]] ++ lb) W fun e w' => e = .returned (.bool (p o)) /\ Below w.heap.size w w') :
 Calls Tryz.prog 174 #[lv, .func (.func g) #[] lb] w fun e w' => e = .returned (.int .i64 (idxP p l)) /\ Below w.heap.size w w' := by
 obtain ⟨sa, c, rfl, hc, hm⟩ := hl.form; have HL := H_ hl; have HP := H_ hp; obtain ⟨len, hln⟩ : ∃ len, len = l.length := ⟨_, rfl⟩; have HLN := H_ hln; rw [<- hln] at hc hmax ⊢; unfold maxLen at hm; clear hl hp hln; go_enter Tryz.func174, Tryz.ntmps174; go_wp2_with fail
 go_loopg [8] len (fun x i wr => ∃ k : Nat, k <= len /\ x = len - k /\ i = .int .i64 k /\ Hid (Below w.heap.size w wr /\ ∀ j (hj : j < l.length), j < k -> p l[j] = false))
 case atStart => exact ⟨0, by omega, by omega, rfl, Below.refl _ _, fun j _ h => absurd h (Nat.not_lt_zero _)⟩
 case round =>
  obtain ⟨k, hk, rfl, rfl, hK⟩ := hrel; have HK := H_ hK.out; clear hK
  by_cases hkl : k < len
  . have hkl' : k < l.length := by have := HLN.out; omega
    obtain ⟨b, off, rfl, hb, -, -, -, -, c0, c1, c2, c3, c4⟩ := HL.out.at k hkl'; have d0 : wr.cell? ⟨b, off + k * 5, none⟩ = _ := (HK.out.1.cell (p := ⟨b, off + k * 5, none⟩) hb).trans c0; have d1 : wr.cell? ⟨b, off + k * 5 + 1, none⟩ = _ := (HK.out.1.cell (p := ⟨b, off + k * 5 + 1, none⟩) hb).trans c1; have d2 : wr.cell? ⟨b, off + k * 5 + 2, none⟩ = _ := (HK.out.1.cell (p := ⟨b, off + k * 5 + 2, none⟩) hb).trans c2; have d3 : wr.cell? ⟨b, off + k * 5 + 3, none⟩ = _ := (HK.out.1.cell (p := ⟨b, off + k * 5 + 3, none⟩) hb).trans c3; have d4 : wr.cell? ⟨b, off + k * 5 + 4, none⟩ = _ := (HK.out.1.cell (p := ⟨b, off + k * 5 + 4, none⟩) hb).trans c4; have hcall := HP.out wr l[k] (List.getElem_mem _) HK.out.1; have HH := H_ (idxP_hit p l k hkl')
    have HB : Hid (∀ (y : Bool), p l[k] = y -> y = false -> ∀ j (hj : j < l.length), j < k + 1 -> p l[j] = false) := H_ (by
     intro y hy hf j hj hlt
     rcases Nat.lt_or_ge j k with h | h
     . exact HK.out.2 j hj h
     . obtain rfl : j = k := by omega
       rw [hy, hf])
    clear c0 c1 c2 c3 c4; generalize hq : p l[k] = y at hcall HH HB; clear hq; generalize l[k] = o at *; obtain ⟨t, ln, mn, mx, sg⟩ := o; simp only at d0 d1 d2 d3 d4 hcall
    cases y with
    | true =>
     go_wp2_with (go_at_fn g; refine hcall.mono ?_; rintro e w' ⟨rfl, hb'⟩)
     go_ret; exact ⟨by rw [HH.out (by first | exact trivial | rfl) HK.out.2]; rfl, hb'⟩
    | false =>
     go_wp2_with (go_at_fn g; refine hcall.mono ?_; rintro e w' ⟨rfl, hb'⟩)
     go_roundg (len - (k + 1))
     case measure => omega
     case rel => exact ⟨k + 1, by omega, rfl, by go_num, hb', HB.out false rfl rfl⟩
  . go_wp2_with fail; go_ret; exact ⟨by rw [idxP_miss p l (fun j hj => HK.out.2 j hj (by have := HLN.out; omega))]; rfl, HK.out.1⟩
end Go.Proofs.YtoblffnlopmebaaGreat
