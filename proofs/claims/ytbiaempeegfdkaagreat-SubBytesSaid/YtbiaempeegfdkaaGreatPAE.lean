import Derived.Test.YtbiaempeegfdkaaGreatPAD
import Derived.Test.YtbiaempeegfdkaaGreatPAB
import Derived.Outline
import Derived.Deep.LoopGhost
set_option linter.unusedVariables false
set_option linter.unusedSimpArgs false
set_option maxHeartbeats 16000000
namespace Go.Proofs.YtbiaempeegfdkaaGreat
open Go.RowKit Go.Tg Go.Maps
open Classical in
noncomputable def mixM (left : Value -> Prop) (m1 m2 : Value -> Option Value) : Value -> Option Value := fun k => if left k then m1 k else (m2 k).or (m1 k)
theorem mixM_step {left : Value -> Prop} {m1 m2 : Value -> Option Value} {k v : Value} (hm : m2 k = some v) : upd (mixM left m1 m2) k v = mixM (fun k' => left k' /\ k' ≠ k) m1 m2 := by
 funext k'
 by_cases h : k' = k
 . subst h; simp [upd, mixM, hm]
 . by_cases hl : left k' <;> simp [upd, mixM, h, hl]
theorem mixM_start (m1 m2 : Value -> Option Value) : m1 = mixM (fun k => (m2 k).isSome = true) m1 m2 := by
 funext k
 cases h : m2 k <;> simp [mixM, h]
theorem mixM_end {left : Value -> Prop} {m1 m2 : Value -> Option Value} (h : ∀ k, ¬ left k) : mixM left m1 m2 = fun k => (m2 k).or (m1 k) := by
 funext k
 simp [mixM, h]
set_option maxRecDepth 100000 in
theorem copy_any (B bd bs : Nat) (f1 f2 : Tab) (w : World) (hne : bd ≠ bs) (h1 : TableAt Tryz.prog 213 3 B w bd f1) (h2 : TableAt Tryz.prog 213 3 B w bs f2) :
 Calls Tryz.prog 185 #[.map (some bd), .map (some bs)] w fun e w' => e = .returned (.tuple #[]) /\ TableAt Tryz.prog 213 3 B w' bd (fun s e => (f2 s e).or (f1 s e)) /\ Keep (· = bd) w w' := by
 obtain ⟨es1, cl1, hblk⟩ := h1.map_block; obtain ⟨m1, hm1, ha1, hb1⟩ := h1; obtain ⟨m2, hm2, ha2, hb2⟩ := h2; have hltd := hm1.lt; have hlts := hm2.lt; have HA1 := H_ ha1; have HB1 := H_ hb1; have HA2 := H_ ha2; have HB2 := H_ hb2; have HBL := H_ hblk; clear ha1 hb1 ha2 hb2 hblk; go_enter Tryz.func185, Tryz.ntmps185
 go_wp2_with (first | (at_range; refine wpl_range _ rfl _ 210 213 208 rfl Tryz.underlying210 bs m2 rfl hm2 ?_; intro w0 n0 hit0 hk0 hs0) | fail)
 go_frame
 have HS0 := H_ hs0; clear hs0
 go_loopg [4] n0 (fun n _ wr => ∃ left, IterAt Tryz.prog 213 wr w.heap.size bs m2 left n /\ MapAt Tryz.prog 213 wr bd (mixM left m1 m2) /\ Keep (· = bd) w wr)
 case atStart =>
  refine ⟨_, hit0, mixM_start m1 m2 ▸ hm1.keep hk0 (by simp), hk0.mono (by simp)⟩
 case round =>
  obtain ⟨left, hit, hmm, hkp⟩ := hrel
  go_wp2_with (first | (at_next; refine wpl_next _ rfl _ rfl 213 w.heap.size bs m2 left _ rfl hit ?_ ?_) | fail)
  . intro hl
    go_wp2
    go_end0
    rw [mixM_end hl] at hmm; refine ⟨rfl, ⟨_, hmm, fun k v hkv => ?_, fun s e n xs hf => ?_⟩, hkp⟩
    . cases h2 : m2 k with
      | some v2 =>
       obtain ⟨s, e, n, sl, xs, h3, h4, h5, h6⟩ := HA2.out k v2 h2; simp only [h2, Option.some_or, Option.some.injEq] at hkv; subst hkv; exact ⟨s, e, n, sl, xs, h3, by simp [h4], h5, h6.keep_map HBL.out hkp⟩
      | none =>
       simp only [h2, Option.none_or] at hkv; obtain ⟨s, e, n, sl, xs, h3, h4, h5, h6⟩ := HA1.out k v hkv; refine ⟨s, e, n, sl, xs, h3, ?_, h5, h6.keep_map HBL.out hkp⟩
       cases hf2 : f2 s e with
       | none => show (f2 s e).or (f1 s e) = _; rw [hf2, Option.none_or]; exact h4
       | some y =>
        obtain ⟨v', hv'⟩ := HB2.out s e y.1 y.2 hf2; rw [<- h3, h2] at hv'; cases hv'
    . cases hf2 : f2 s e with
      | some y =>
       obtain ⟨v', hv'⟩ := HB2.out s e y.1 y.2 hf2; exact ⟨v', by simp [hv']⟩
      | none =>
       simp only [hf2, Option.none_or] at hf; obtain ⟨v', hv'⟩ := HB1.out s e n xs hf
       cases h2 : m2 (keyV s e) with
       | none => exact ⟨v', by simpa using hv'⟩
       | some v2 => exact ⟨v2, by simp⟩
  . intro k v w1 n' hlk hmk hk1 hs1 hn' hit1 hen
    obtain ⟨ks, ke, kn, sa, sn, sc, hk, hv⟩ : ∃ ks ke kn sa sn sc, k = .agg #[.int .i64 ks, .int .i64 ke] /\ v = .agg #[.int .i64 kn, .slice sa sn sc] := by
     obtain ⟨s, e, n, sl, xs, h3, h4, h5, h6⟩ := HA2.out k v hmk
     rcases h6 with ⟨_, h6⟩ | ⟨b, _, h6, _⟩
     . exact ⟨s, e, n, none, 0, 0, h3, by rw [h5, h6]; rfl⟩
     . exact ⟨s, e, n, _, _, _, h3, by rw [h5, h6]; rfl⟩
    subst hk hv; have hkv := hm2.kv hmk; have HKV := H_ hkv; have HMK := H_ hmk; have HIT := H_ hit1; have hmm1 := hmm.keep hk1 (by omega); have HKK := H_ (A_ hk1 hs1); clear hkv hmk hit1 hk1 hs1 hmm hlk
    go_wp2_with (first | (at_mapUpdate; refine wpl_update _ rfl _ _ _ 210 213 208 rfl keyed48 Tryz.underlying210 bd (mixM left m1 m2) rfl (hmm1.keep ((((Keep.refl (fun _ => False) _).alloc _).alloc _)) (by simp)) _ _ rfl rfl HKV.out ?_; intro w2 hmm2 hk2 hs2))
    go_frame
    obtain ⟨hk1, hs1⟩ := HKK.out; have hit2 := HIT.out; have hmk := HMK.out
    go_roundg n'
    case measure => exact hn'
    case rel =>
     have hmm3 : MapAt Tryz.prog 213 w2 bd (upd (mixM left m1 m2) (.agg #[.int .i64 ks, .int .i64 ke]) (.agg #[.int .i64 kn, .slice sa sn sc])) := hmm2; rw [mixM_step hmk] at hmm3; have hkk : Keep (· = bd) w1 w2 := (((Keep.refl _ _).alloc _).alloc _).trans hk2; have hszr := hkp.size
     exact ⟨_, hit2.same (hkk.block bs (by omega) (fun e => hne e.symm)) (hkk.block w.heap.size hit2.ltr (by omega)), hmm3,
      (hkp.transM hk1 (fun _ _ h => h) (fun i hi h => by omega)).trans hkk⟩
end Go.Proofs.YtbiaempeegfdkaaGreat
