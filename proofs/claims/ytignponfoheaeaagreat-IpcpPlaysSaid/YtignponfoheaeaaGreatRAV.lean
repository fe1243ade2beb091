import Derived.Test.YtignponfoheaeaaGreatRAP
import Derived.Test.YtignponfoheaeaaGreatRAT
import Derived.Test.YtignponfoheaeaaGreatRAU
import Derived.Test.YtignponfoheaeaaGreatRAN
import Derived.Test.YtignponfoheaeaaGreatRAD
set_option linter.unusedVariables false
set_option linter.unusedSimpArgs false
set_option maxHeartbeats 16000000
namespace Go.Proofs.YtignponfoheaeaaGreat
open Go.RowKit Go.Tg Go.Maps
theorem strE (d : ByteArray) : (d = ⟨#[]⟩) ↔ d.size = 0 := by
 constructor
 . intro h; rw [h]; rfl
 . intro h; apply ByteArray.ext; exact Array.eq_empty_of_size_eq_zero h
section
variable {w : World} {pc pi : Int} {pl : List Opt} {pd : ByteArray} {a1 : Option Addr} {k1 : Nat}
set_option maxRecDepth 100000 in
theorem putP9_b1 (h : pc < 0) :
 Calls Tryz.prog 229 #[.agg #[.int .i64 pc, .int .i64 pi, .slice a1 pl.length k1, .string pd]] w fun e w' => e = .returned (.tuple #[.string noB, .int .i64 1]) /\ Below w.heap.size w w' := by
 have q1 : decide (pc < 0) = true := by simpa using h
 have HB := H_ (b1 w (.cells #[.int .i64 pc, .int .i64 pi, .slice a1 pl.length k1, .string pd] 93 (0, 0))); generalize pl.length = pn at *; clear h; go_enter Tryz.func229, Tryz.ntmps229; go_wp2_with fail; go_ret2; exact ⟨rfl, HB.out⟩
set_option maxRecDepth 100000 in
theorem putP9_b2 (h0 : 0 <= pc) (h : 255 < pc) :
 Calls Tryz.prog 229 #[.agg #[.int .i64 pc, .int .i64 pi, .slice a1 pl.length k1, .string pd]] w fun e w' => e = .returned (.tuple #[.string noB, .int .i64 1]) /\ Below w.heap.size w w' := by
 have q1 : decide (pc < 0) = false := by simpa using h0
 have q2 : decide ((255 : Int) < pc) = true := by simpa using h
 have HB := H_ (b1 w (.cells #[.int .i64 pc, .int .i64 pi, .slice a1 pl.length k1, .string pd] 93 (0, 0))); generalize pl.length = pn at *; clear h h0; go_enter Tryz.func229, Tryz.ntmps229; go_wp2_with fail; go_ret2; exact ⟨rfl, HB.out⟩
set_option maxRecDepth 100000 in
theorem putP9_b3 (h0 : 0 <= pc) (h1 : pc <= 255) (h : pi < 0) :
 Calls Tryz.prog 229 #[.agg #[.int .i64 pc, .int .i64 pi, .slice a1 pl.length k1, .string pd]] w fun e w' => e = .returned (.tuple #[.string noB, .int .i64 1]) /\ Below w.heap.size w w' := by
 have q1 : decide (pc < 0) = false := by simpa using h0
 have q2 : decide ((255 : Int) < pc) = false := by simpa using h1
 have q3 : decide (pi < 0) = true := by simpa using h
 have HB := H_ (b1 w (.cells #[.int .i64 pc, .int .i64 pi, .slice a1 pl.length k1, .string pd] 93 (0, 0))); generalize pl.length = pn at *; clear h h0 h1; go_enter Tryz.func229, Tryz.ntmps229; go_wp2_with fail; go_ret2; exact ⟨rfl, HB.out⟩
set_option maxRecDepth 100000 in
theorem putP9_b4 (h0 : 0 <= pc) (h1 : pc <= 255) (h2 : 0 <= pi) (h : 255 < pi) :
 Calls Tryz.prog 229 #[.agg #[.int .i64 pc, .int .i64 pi, .slice a1 pl.length k1, .string pd]] w fun e w' => e = .returned (.tuple #[.string noB, .int .i64 1]) /\ Below w.heap.size w w' := by
 have q1 : decide (pc < 0) = false := by simpa using h0
 have q2 : decide ((255 : Int) < pc) = false := by simpa using h1
 have q3 : decide (pi < 0) = false := by simpa using h2
 have q4 : decide ((255 : Int) < pi) = true := by simpa using h
 have HB := H_ (b1 w (.cells #[.int .i64 pc, .int .i64 pi, .slice a1 pl.length k1, .string pd] 93 (0, 0))); generalize pl.length = pn at *; clear h h0 h1 h2; go_enter Tryz.func229, Tryz.ntmps229; go_wp2_with fail; go_ret2; exact ⟨rfl, HB.out⟩
set_option maxRecDepth 100000 in
theorem putP9_b5 (h0 : 0 <= pc) (h1 : pc <= 255) (h2 : 0 <= pi) (h3 : pi <= 255) (h4 : 0 < pl.length) (h : confB pc = false) :
 Calls Tryz.prog 229 #[.agg #[.int .i64 pc, .int .i64 pi, .slice a1 pl.length k1, .string pd]] w fun e w' => e = .returned (.tuple #[.string noB, .int .i64 1]) /\ Below w.heap.size w w' := by
 have q1 : decide (pc < 0) = false := by simpa using h0
 have q2 : decide ((255 : Int) < pc) = false := by simpa using h1
 have q3 : decide (pi < 0) = false := by simpa using h2
 have q4 : decide ((255 : Int) < pi) = false := by simpa using h3
 have q5 : decide ((0 : Int) < (pl.length : Int)) = true := decide_eq_true (by omega); have HC := H_ (fun w => conf9_any pc w); rw [h] at HC; have HB := H_ (b1 w (.cells #[.int .i64 pc, .int .i64 pi, .slice a1 pl.length k1, .string pd] 93 (0, 0)))
 by_cases hpd : pd = ⟨#[]⟩
 . subst hpd; generalize pl.length = pn at *; clear h h0 h1 h2 h3; go_enter Tryz.func229, Tryz.ntmps229
   go_wp2_with (go_at_call 248; refine (HC.out _).mono ?_; rintro e w0 ⟨rfl, rfl⟩)
   go_ret2; exact ⟨rfl, HB.out⟩
 . have hd1 : pd.toList.isEmpty = false := by rw [isE]; have := mt (strE pd).2 hpd; simp [this]
   generalize pl.length = pn at *; clear h h0 h1 h2 h3; go_enter Tryz.func229, Tryz.ntmps229
   go_wp2_with (go_at_call 248; refine (HC.out _).mono ?_; rintro e w0 ⟨rfl, rfl⟩)
   go_ret2; exact ⟨rfl, HB.out⟩
set_option maxRecDepth 100000 in
theorem putP9_b6 (h0 : 0 <= pc) (h1 : pc <= 255) (h2 : 0 <= pi) (h3 : pi <= 255) (h5 : ¬ pd = ⟨#[]⟩) (h : confB pc = true) :
 Calls Tryz.prog 229 #[.agg #[.int .i64 pc, .int .i64 pi, .slice a1 pl.length k1, .string pd]] w fun e w' => e = .returned (.tuple #[.string noB, .int .i64 1]) /\ Below w.heap.size w w' := by
 have q1 : decide (pc < 0) = false := by simpa using h0
 have q2 : decide ((255 : Int) < pc) = false := by simpa using h1
 have q3 : decide (pi < 0) = false := by simpa using h2
 have q4 : decide ((255 : Int) < pi) = false := by simpa using h3
 have HC := H_ (fun w => conf9_any pc w); rw [h] at HC; have HB := H_ (b1 w (.cells #[.int .i64 pc, .int .i64 pi, .slice a1 pl.length k1, .string pd] 93 (0, 0))); have hd1 : pd.toList.isEmpty = false := by rw [isE]; have := mt (strE pd).2 h5; simp [this]
 by_cases h4 : 0 < pl.length
 . have q5 : decide ((0 : Int) < (pl.length : Int)) = true := decide_eq_true (by omega); generalize pl.length = pn at *; clear h h0 h1 h2 h3; go_enter Tryz.func229, Tryz.ntmps229
   go_wp2_with (go_at_call 248; refine (HC.out _).mono ?_; rintro e w0 ⟨rfl, rfl⟩)
   go_ret2; exact ⟨rfl, HB.out⟩
 . have q5 : decide ((0 : Int) < (pl.length : Int)) = false := decide_eq_false (by omega); generalize pl.length = pn at *; clear h h0 h1 h2 h3; go_enter Tryz.func229, Tryz.ntmps229
   go_wp2_with (go_at_call 248; refine (HC.out _).mono ?_; rintro e w0 ⟨rfl, rfl⟩)
   go_ret2; exact ⟨rfl, HB.out⟩
structure PutW (w W : World) (c i : Nat) (po : Value) (pd : ByteArray) : Prop where
 b : Below w.heap.size w W
 z : W.heap[w.heap.size]? = some (.cells #[.int .i64 (c : Int), .int .i64 (i : Int), po, .string pd] 93 (0, 0))
theorem PutW.below {w W W' : World} {c i : Nat} {po : Value} {pd : ByteArray} (h : PutW w W c i po pd) (hb : Below W.heap.size W W') : PutW w W' c i po pd :=
 ⟨h.b.trans (hb.mono h.b.size), (hb.block _ (Array.getElem?_eq_some_iff.1 h.z).1).trans h.z⟩
theorem PutW.c0 {w W : World} {c i : Nat} {po : Value} {pd : ByteArray} (h : PutW w W c i po pd) : W.cell? ⟨w.heap.size, 0, none⟩ = some (.int .i64 (c : Int)) /\ W.cell? ⟨w.heap.size, 1, none⟩ = some (.int .i64 (i : Int)) := ⟨cellOf h.z 0 _ rfl, cellOf h.z 1 _ rfl⟩
theorem two_conv (c i : Nat) (hc : c <= 255) (hi : i <= 255) (g : Nat) (W : World) (hx : W.heap[g]? = some (.cells #[.int .u8 (c : Int), .int .u8 (i : Int)] 5 (0, 0))) :
 (convert 200 9 (.slice (some ⟨g, 0, none⟩) 2 2)).run Tryz.prog W = .ok (.string ⟨#[UInt8.ofNat c, UInt8.ofNat i]⟩) W := by
 refine run_convert_bytes_back (P := Tryz.prog) _ 200 9 5 ⟨g, 0, none⟩ 2 [UInt8.ofNat c, UInt8.ofNat i] Tryz.underlying200 Tryz.underlying5 Tryz.underlying9 (fun j hj => ?_); rw [Addr.add_lit, Nat.zero_add]; have e1 : (UInt8.ofNat c).toNat = c := by rw [UInt8.toNat_ofNat']; omega
 have e2 : (UInt8.ofNat i).toNat = i := by rw [UInt8.toNat_ofNat']; omega
 match j, hj with
 | 0, _ => simp only [List.getElem_cons_zero]; rw [e1]; exact cellOf hx 0 _ rfl
 | 1, _ => simp only [List.getElem_cons_zero, List.getElem_cons_succ]; rw [e2]; exact cellOf hx 1 _ rfl
set_option maxRecDepth 100000 in
theorem putP9_good_conf (c i : Nat) (hc : c <= 255) (hi : i <= 255) (po : Value) (ok : Nat -> Prop) (ho : Opts w ok (.slice a1 pl.length k1) pl) (hl : pl.length <= 1000000) (hv : ∀ o ∈ pl, o.v.size <= 100000) (h : confB c = true) (hd : pd = ⟨#[]⟩) :
 Calls Tryz.prog 229 #[.agg #[.int .i64 (c : Int), .int .i64 (i : Int), .slice a1 pl.length k1, .string pd]] w fun e w' => e = .returned (if putE pl ≠ 0 then (.tuple #[.string noB, .int .i64 (putE pl)]) else if 1488 < (putS pl).size then .tuple #[.string noB, .int .i64 2] else .tuple #[.string (layB c i (putS pl)), .int .i64 0]) /\ Below w.heap.size w w' := by
 obtain ⟨R, hR⟩ : ∃ R : Value, R = (if putE pl ≠ 0 then (.tuple #[.string noB, .int .i64 (putE pl)]) else if 1488 < (putS pl).size then .tuple #[.string noB, .int .i64 2] else .tuple #[.string (layB c i (putS pl)), .int .i64 0]) := ⟨_, rfl⟩; rw [<- hR]; have HR := H_ hR; clear hR; have q1 : decide ((c : Int) < 0) = false := by simp
 have q2 : decide ((255 : Int) < (c : Int)) = false := by simp; omega
 have q3 : decide ((i : Int) < 0) = false := by simp
 have q4 : decide ((255 : Int) < (i : Int)) = false := by simp; omega
 have HC := H_ (fun w => conf9_any (c : Int) w); rw [h] at HC; subst hd; have hb1 := b1 w (.cells #[.int .i64 (c : Int), .int .i64 (i : Int), .slice a1 pl.length k1, .string ⟨#[]⟩] 93 (0, 0)); have HPU := H_ (put9_any pl _ ok _ (ho.below hb1) hl hv); have HP0 : Hid (PutW w (w.alloc (.cells #[.int .i64 (c : Int), .int .i64 (i : Int), .slice a1 pl.length k1, .string ⟨#[]⟩] 93 (0, 0))) c i (.slice a1 pl.length k1) ⟨#[]⟩) := H_ ⟨b1 w _, heap_alloc_new w _⟩; clear h ho hv hb1
 by_cases h4 : 0 < pl.length
 . have q5 : decide ((0 : Int) < (pl.length : Int)) = true := decide_eq_true (by omega); generalize putE pl = pe at *; generalize putS pl = ps at *; generalize pl.length = pn at *; go_enter Tryz.func229, Tryz.ntmps229
   go_wp2_with (go_at_call 248; refine (HC.out _).mono ?_; rintro e w0 ⟨rfl, rfl⟩)
   refine HPU.out.mono ?_; rintro e w1 ⟨rfl, hb1⟩; have HP1 := H_ (HP0.out.below hb1); clear hb1
   by_cases hpe : pe = 0
   . have HRL := H_ (show R = if 1488 < ps.size then .tuple #[.string noB, .int .i64 2] else .tuple #[.string (layB c i ps), .int .i64 0] from by rw [HR.out, if_neg (by omega)]); subst hpe
     by_cases hlg : 1488 < ps.size
     . have HR2 := H_ (show R = .tuple #[.string noB, .int .i64 2] from by rw [HRL.out, if_pos hlg]); have d1 : decide ((1488 : Int) < (ps.size : Int)) = true := by simp; omega
       clear hlg; go_wp2_with fail; go_ret2; exact ⟨by rw [HR2.out]; rfl, HP1.out.b⟩
     . have HR2 := H_ (show R = .tuple #[.string (layB c i ps), .int .i64 0] from by rw [HRL.out, if_neg hlg]); have d1 : decide ((1488 : Int) < (ps.size : Int)) = false := by simp; omega
       have ha : wrap64 ((ps.size : Int) + 4) = ((ps.size + 4 : Nat) : Int) := by unfold wrap64; omega
       have ha2 : IntKind.i64.wrap ((ps.size : Int) + 4) = ((ps.size + 4 : Nat) : Int) := by unfold IntKind.wrap; simp [IntKind.bits, IntKind.signed]; omega
       have hcw : IntKind.u8.wrap (c : Int) = (c : Int) := by unfold IntKind.wrap; simp [IntKind.bits, IntKind.signed]; omega
       have hiw : IntKind.u8.wrap (i : Int) = (i : Int) := by unfold IntKind.wrap; simp [IntKind.bits, IntKind.signed]; omega
       have HT := H_ (fun w => two9_any (ps.size + 4) w (by omega)); unfold twoB at HT; have HL := H_ (show layB c i ps = (ByteArray.mk #[UInt8.ofNat c, UInt8.ofNat i] ++ ByteArray.mk #[UInt8.ofNat ((ps.size + 4) / 256), UInt8.ofNat (ps.size + 4)]) ++ ps from rfl); have sz1 : (ByteArray.mk #[UInt8.ofNat ((ps.size + 4) / 256), UInt8.ofNat (ps.size + 4)]).size = 2 := rfl; generalize ByteArray.mk #[UInt8.ofNat ((ps.size + 4) / 256), UInt8.ofNat (ps.size + 4)] = x1 at *; have sz2 : (ByteArray.mk #[UInt8.ofNat c, UInt8.ofNat i]).size = 2 := rfl; have hlim : ¬ (9223372036854775807 < 4 + ps.size) := by omega
       have sz3 : (ByteArray.mk #[UInt8.ofNat c, UInt8.ofNat i] ++ x1).size = 4 := by rw [ByteArray.size_append, sz1, sz2]
       clear hlg; go_wp2_with fail; have HSv : (fun Y : World => Y.cell? ⟨w.heap.size, 0, none⟩ = some (.int .i64 (c : Int)) /\ Y.cell? ⟨w.heap.size, 1, none⟩ = some (.int .i64 (i : Int))) w1.drew := HP1.out.c0; have HP2 := H_ (HP1.out.below (Below.refl _ _).drew); refine wp_region_H (rgH 0 15) (fun Y : World => Y.cell? ⟨w.heap.size, 0, none⟩ = some (.int .i64 (c : Int)) /\ Y.cell? ⟨w.heap.size, 1, none⟩ = some (.int .i64 (i : Int))) (by kernel_rfl) ?_; generalize w1.drew = w2 at *; refine hatH 0 rfl (by rintro W ⟨h0, h1⟩; go_simp; try rfl) HSv ?_; simp only [aZ, aC, aD]; refine hatH 1 rfl (by rintro W ⟨h0, h1⟩; go_simp; try rfl) HSv ?_; simp only [aZ, aC, aD]; refine hatH 2 rfl (by rintro W ⟨h0, h1⟩; go_simp; try rfl) HSv ?_; simp only [aZ, aC, aD]; refine hatH 3 rfl (by rintro W ⟨h0, h1⟩; go_simp; try rfl) HSv ?_; simp only [aZ, aC, aD]; refine hatH 4 rfl (by rintro W ⟨h0, h1⟩; go_simp; try rfl) HSv ?_; simp only [aZ, aC, aD]; refine hatH 5 rfl (by rintro W ⟨h0, h1⟩; go_simp; try rfl) HSv ?_; simp only [aZ, aC, aD]; refine hatH 8 rfl (by rintro W ⟨h0, h1⟩; go_simp; try rfl) HSv ?_; simp only [aZ, aC, aD]; refine hatH 9 rfl (by rintro W ⟨h0, h1⟩; go_simp; try rfl) HSv ?_; simp only [aZ, aC, aD]; refine hatH 10 rfl (by rintro W ⟨h0, h1⟩; go_simp; try rfl) HSv ?_; simp only [aZ, aC, aD]; refine hatH 13 rfl (by rintro W ⟨h0, h1⟩; go_simp; try rfl) HSv ?_; simp only [aZ, aC, aD]; refine wpAnyH_2 6 11 rfl rfl (by kernel_rfl) ?_ ?_
       . intro K hK; rw [if_pos (by rfl)]
         try go_simp
         have HB3 := H_ (b1 w2 (.cells #[.int .u8 (c : Int), .int .u8 (i : Int)] 5 (0, 0))); have HG := H_ (heap_alloc_new w2 (.cells #[.int .u8 (c : Int), .int .u8 (i : Int)] 5 (0, 0))); have HP3 := H_ (HP2.out.below HB3.out); generalize w2.alloc (.cells #[.int .u8 (c : Int), .int .u8 (i : Int)] 5 (0, 0)) = w3 at *; have HSv : (fun Y : World => Y.cell? ⟨w.heap.size, 0, none⟩ = some (.int .i64 (c : Int)) /\ Y.cell? ⟨w.heap.size, 1, none⟩ = some (.int .i64 (i : Int))) w3 := HP3.out.c0; refine hK _ _ (fun _ => HSv) ?_
         try simp only [aZ, aA, aE, aB, aC, aD]
         refine wpAnyH_2 7 11 rfl rfl (by kernel_rfl) ?_ ?_
         . intro K hK; rw [if_pos (by rfl)]; have hcv := two_conv c i hc hi _ w3 HG.out
           try go_simp
           try rw [hcv]
           try simp only [Result.andThen_ok]
           refine hK _ _ (fun _ => HSv) ?_
           try simp only [aZ, aA, aE, aB, aC, aD]
           refine hone 11 rfl fun K hK => ?_
           try go_simp
           go_at_call 249; refine (HT.out _).mono ?_; rintro e w4 ⟨rfl, hb4⟩; have HB4 := H_ hb4; have HP4 := H_ (HP3.out.below hb4); clear hb4; have HSv : (fun Y : World => Y.cell? ⟨w.heap.size, 0, none⟩ = some (.int .i64 (c : Int)) /\ Y.cell? ⟨w.heap.size, 1, none⟩ = some (.int .i64 (i : Int))) w4 := HP4.out.c0; refine hK _ _ (fun _ => HSv) ?_
           try simp only [aZ, aA, aE, aB, aC, aD]
           refine hatH 12 rfl (by rintro W ⟨h0, h1⟩; go_simp; try rfl) HSv ?_; simp only [aZ, aC, aD]; refine hatH 14 rfl (by rintro W ⟨h0, h1⟩; go_simp; try rfl) HSv ?_; simp only [aZ, aC, aD]; refine hend 15 ?_; simp only [aF, aG]; go_wp2_with fail; go_ret2; exact ⟨by rw [HR2.out, HL.out]; rfl, HP4.out.b⟩
         . intro K hK; rw [if_pos (by rfl)]
           try go_simp
           go_at_call 249; refine (HT.out _).mono ?_; rintro e w4 ⟨rfl, hb4⟩; have HB4 := H_ hb4; have HP4 := H_ (HP3.out.below hb4); clear hb4; have HSv : (fun Y : World => Y.cell? ⟨w.heap.size, 0, none⟩ = some (.int .i64 (c : Int)) /\ Y.cell? ⟨w.heap.size, 1, none⟩ = some (.int .i64 (i : Int))) w4 := HP4.out.c0; refine hK _ _ (fun _ => HSv) ?_
           try simp only [aZ, aA, aE, aB, aC, aD]
           have HG := H_ ((HB4.out.block _ (Array.getElem?_eq_some_iff.1 HG.out).1).trans HG.out); refine wpAnyH_1 7 rfl (by kernel_rfl) ?_; intro K hK; rw [if_pos (by rfl)]; have hcv := two_conv c i hc hi _ w4 HG.out
           try go_simp
           try rw [hcv]
           try simp only [Result.andThen_ok]
           refine hK _ _ (fun _ => HSv) ?_
           try simp only [aZ, aA, aE, aB, aC, aD]
           refine hatH 12 rfl (by rintro W ⟨h0, h1⟩; go_simp; try rfl) HSv ?_; simp only [aZ, aC, aD]; refine hatH 14 rfl (by rintro W ⟨h0, h1⟩; go_simp; try rfl) HSv ?_; simp only [aZ, aC, aD]; refine hend 15 ?_; simp only [aF, aG]; go_wp2_with fail; go_ret2; exact ⟨by rw [HR2.out, HL.out]; rfl, HP4.out.b⟩
       . intro K hK; rw [if_pos (by rfl)]
         try go_simp
         go_at_call 249; refine (HT.out _).mono ?_; rintro e w3 ⟨rfl, hb3⟩; have HB3 := H_ hb3; have HP3 := H_ (HP2.out.below hb3); clear hb3; have HSv : (fun Y : World => Y.cell? ⟨w.heap.size, 0, none⟩ = some (.int .i64 (c : Int)) /\ Y.cell? ⟨w.heap.size, 1, none⟩ = some (.int .i64 (i : Int))) w3 := HP3.out.c0; refine hK _ _ (fun _ => HSv) ?_
         try simp only [aZ, aA, aE, aB, aC, aD]
         refine hone 6 rfl fun K hK => ?_
         try go_simp
         have HB4 := H_ (b1 w3 (.cells #[.int .u8 (c : Int), .int .u8 (i : Int)] 5 (0, 0))); have HG := H_ (heap_alloc_new w3 (.cells #[.int .u8 (c : Int), .int .u8 (i : Int)] 5 (0, 0))); have HP4 := H_ (HP3.out.below HB4.out); generalize w3.alloc (.cells #[.int .u8 (c : Int), .int .u8 (i : Int)] 5 (0, 0)) = w4 at *; have HSv : (fun Y : World => Y.cell? ⟨w.heap.size, 0, none⟩ = some (.int .i64 (c : Int)) /\ Y.cell? ⟨w.heap.size, 1, none⟩ = some (.int .i64 (i : Int))) w4 := HP4.out.c0; refine hK _ _ (fun _ => HSv) ?_
         try simp only [aZ, aA, aE, aB, aC, aD]
         refine wpAnyH_1 7 rfl (by kernel_rfl) ?_; intro K hK; rw [if_pos (by rfl)]; have hcv := two_conv c i hc hi _ w4 HG.out
         try go_simp
         try rw [hcv]
         try simp only [Result.andThen_ok]
         refine hK _ _ (fun _ => HSv) ?_
         try simp only [aZ, aA, aE, aB, aC, aD]
         refine hatH 12 rfl (by rintro W ⟨h0, h1⟩; go_simp; try rfl) HSv ?_; simp only [aZ, aC, aD]; refine hatH 14 rfl (by rintro W ⟨h0, h1⟩; go_simp; try rfl) HSv ?_; simp only [aZ, aC, aD]; refine hend 15 ?_; simp only [aF, aG]; go_wp2_with fail; go_ret2; exact ⟨by rw [HR2.out, HL.out]; rfl, HP4.out.b⟩
   . have qe : (pe != 0) = true := by simpa using hpe
     have HR2 := H_ (show R = .tuple #[.string noB, .int .i64 pe] from by rw [HR.out, if_pos hpe]); clear hpe; go_wp2_with fail; go_ret2; exact ⟨by rw [HR2.out]; rfl, HP1.out.b⟩
 . have q5 : decide ((0 : Int) < (pl.length : Int)) = false := decide_eq_false (by omega); generalize putE pl = pe at *; generalize putS pl = ps at *; generalize pl.length = pn at *; go_enter Tryz.func229, Tryz.ntmps229
   go_wp2_with (go_at_call 248; refine (HC.out _).mono ?_; rintro e w0 ⟨rfl, rfl⟩)
   refine HPU.out.mono ?_; rintro e w1 ⟨rfl, hb1⟩; have HP1 := H_ (HP0.out.below hb1); clear hb1
   by_cases hpe : pe = 0
   . have HRL := H_ (show R = if 1488 < ps.size then .tuple #[.string noB, .int .i64 2] else .tuple #[.string (layB c i ps), .int .i64 0] from by rw [HR.out, if_neg (by omega)]); subst hpe
     by_cases hlg : 1488 < ps.size
     . have HR2 := H_ (show R = .tuple #[.string noB, .int .i64 2] from by rw [HRL.out, if_pos hlg]); have d1 : decide ((1488 : Int) < (ps.size : Int)) = true := by simp; omega
       clear hlg; go_wp2_with fail; go_ret2; exact ⟨by rw [HR2.out]; rfl, HP1.out.b⟩
     . have HR2 := H_ (show R = .tuple #[.string (layB c i ps), .int .i64 0] from by rw [HRL.out, if_neg hlg]); have d1 : decide ((1488 : Int) < (ps.size : Int)) = false := by simp; omega
       have ha : wrap64 ((ps.size : Int) + 4) = ((ps.size + 4 : Nat) : Int) := by unfold wrap64; omega
       have ha2 : IntKind.i64.wrap ((ps.size : Int) + 4) = ((ps.size + 4 : Nat) : Int) := by unfold IntKind.wrap; simp [IntKind.bits, IntKind.signed]; omega
       have hcw : IntKind.u8.wrap (c : Int) = (c : Int) := by unfold IntKind.wrap; simp [IntKind.bits, IntKind.signed]; omega
       have hiw : IntKind.u8.wrap (i : Int) = (i : Int) := by unfold IntKind.wrap; simp [IntKind.bits, IntKind.signed]; omega
       have HT := H_ (fun w => two9_any (ps.size + 4) w (by omega)); unfold twoB at HT; have HL := H_ (show layB c i ps = (ByteArray.mk #[UInt8.ofNat c, UInt8.ofNat i] ++ ByteArray.mk #[UInt8.ofNat ((ps.size + 4) / 256), UInt8.ofNat (ps.size + 4)]) ++ ps from rfl); have sz1 : (ByteArray.mk #[UInt8.ofNat ((ps.size + 4) / 256), UInt8.ofNat (ps.size + 4)]).size = 2 := rfl; generalize ByteArray.mk #[UInt8.ofNat ((ps.size + 4) / 256), UInt8.ofNat (ps.size + 4)] = x1 at *; have sz2 : (ByteArray.mk #[UInt8.ofNat c, UInt8.ofNat i]).size = 2 := rfl; have hlim : ¬ (9223372036854775807 < 4 + ps.size) := by omega
       have sz3 : (ByteArray.mk #[UInt8.ofNat c, UInt8.ofNat i] ++ x1).size = 4 := by rw [ByteArray.size_append, sz1, sz2]
       clear hlg; go_wp2_with fail; have HSv : (fun Y : World => Y.cell? ⟨w.heap.size, 0, none⟩ = some (.int .i64 (c : Int)) /\ Y.cell? ⟨w.heap.size, 1, none⟩ = some (.int .i64 (i : Int))) w1.drew := HP1.out.c0; have HP2 := H_ (HP1.out.below (Below.refl _ _).drew); refine wp_region_H (rgH 0 15) (fun Y : World => Y.cell? ⟨w.heap.size, 0, none⟩ = some (.int .i64 (c : Int)) /\ Y.cell? ⟨w.heap.size, 1, none⟩ = some (.int .i64 (i : Int))) (by kernel_rfl) ?_; generalize w1.drew = w2 at *; refine hatH 0 rfl (by rintro W ⟨h0, h1⟩; go_simp; try rfl) HSv ?_; simp only [aZ, aC, aD]; refine hatH 1 rfl (by rintro W ⟨h0, h1⟩; go_simp; try rfl) HSv ?_; simp only [aZ, aC, aD]; refine hatH 2 rfl (by rintro W ⟨h0, h1⟩; go_simp; try rfl) HSv ?_; simp only [aZ, aC, aD]; refine hatH 3 rfl (by rintro W ⟨h0, h1⟩; go_simp; try rfl) HSv ?_; simp only [aZ, aC, aD]; refine hatH 4 rfl (by rintro W ⟨h0, h1⟩; go_simp; try rfl) HSv ?_; simp only [aZ, aC, aD]; refine hatH 5 rfl (by rintro W ⟨h0, h1⟩; go_simp; try rfl) HSv ?_; simp only [aZ, aC, aD]; refine hatH 8 rfl (by rintro W ⟨h0, h1⟩; go_simp; try rfl) HSv ?_; simp only [aZ, aC, aD]; refine hatH 9 rfl (by rintro W ⟨h0, h1⟩; go_simp; try rfl) HSv ?_; simp only [aZ, aC, aD]; refine hatH 10 rfl (by rintro W ⟨h0, h1⟩; go_simp; try rfl) HSv ?_; simp only [aZ, aC, aD]; refine hatH 13 rfl (by rintro W ⟨h0, h1⟩; go_simp; try rfl) HSv ?_; simp only [aZ, aC, aD]; refine wpAnyH_2 6 11 rfl rfl (by kernel_rfl) ?_ ?_
       . intro K hK; rw [if_pos (by rfl)]
         try go_simp
         have HB3 := H_ (b1 w2 (.cells #[.int .u8 (c : Int), .int .u8 (i : Int)] 5 (0, 0))); have HG := H_ (heap_alloc_new w2 (.cells #[.int .u8 (c : Int), .int .u8 (i : Int)] 5 (0, 0))); have HP3 := H_ (HP2.out.below HB3.out); generalize w2.alloc (.cells #[.int .u8 (c : Int), .int .u8 (i : Int)] 5 (0, 0)) = w3 at *; have HSv : (fun Y : World => Y.cell? ⟨w.heap.size, 0, none⟩ = some (.int .i64 (c : Int)) /\ Y.cell? ⟨w.heap.size, 1, none⟩ = some (.int .i64 (i : Int))) w3 := HP3.out.c0; refine hK _ _ (fun _ => HSv) ?_
         try simp only [aZ, aA, aE, aB, aC, aD]
         refine wpAnyH_2 7 11 rfl rfl (by kernel_rfl) ?_ ?_
         . intro K hK; rw [if_pos (by rfl)]; have hcv := two_conv c i hc hi _ w3 HG.out
           try go_simp
           try rw [hcv]
           try simp only [Result.andThen_ok]
           refine hK _ _ (fun _ => HSv) ?_
           try simp only [aZ, aA, aE, aB, aC, aD]
           refine hone 11 rfl fun K hK => ?_
           try go_simp
           go_at_call 249; refine (HT.out _).mono ?_; rintro e w4 ⟨rfl, hb4⟩; have HB4 := H_ hb4; have HP4 := H_ (HP3.out.below hb4); clear hb4; have HSv : (fun Y : World => Y.cell? ⟨w.heap.size, 0, none⟩ = some (.int .i64 (c : Int)) /\ Y.cell? ⟨w.heap.size, 1, none⟩ = some (.int .i64 (i : Int))) w4 := HP4.out.c0; refine hK _ _ (fun _ => HSv) ?_
           try simp only [aZ, aA, aE, aB, aC, aD]
           refine hatH 12 rfl (by rintro W ⟨h0, h1⟩; go_simp; try rfl) HSv ?_; simp only [aZ, aC, aD]; refine hatH 14 rfl (by rintro W ⟨h0, h1⟩; go_simp; try rfl) HSv ?_; simp only [aZ, aC, aD]; refine hend 15 ?_; simp only [aF, aG]; go_wp2_with fail; go_ret2; exact ⟨by rw [HR2.out, HL.out]; rfl, HP4.out.b⟩
         . intro K hK; rw [if_pos (by rfl)]
           try go_simp
           go_at_call 249; refine (HT.out _).mono ?_; rintro e w4 ⟨rfl, hb4⟩; have HB4 := H_ hb4; have HP4 := H_ (HP3.out.below hb4); clear hb4; have HSv : (fun Y : World => Y.cell? ⟨w.heap.size, 0, none⟩ = some (.int .i64 (c : Int)) /\ Y.cell? ⟨w.heap.size, 1, none⟩ = some (.int .i64 (i : Int))) w4 := HP4.out.c0; refine hK _ _ (fun _ => HSv) ?_
           try simp only [aZ, aA, aE, aB, aC, aD]
           have HG := H_ ((HB4.out.block _ (Array.getElem?_eq_some_iff.1 HG.out).1).trans HG.out); refine wpAnyH_1 7 rfl (by kernel_rfl) ?_; intro K hK; rw [if_pos (by rfl)]; have hcv := two_conv c i hc hi _ w4 HG.out
           try go_simp
           try rw [hcv]
           try simp only [Result.andThen_ok]
           refine hK _ _ (fun _ => HSv) ?_
           try simp only [aZ, aA, aE, aB, aC, aD]
           refine hatH 12 rfl (by rintro W ⟨h0, h1⟩; go_simp; try rfl) HSv ?_; simp only [aZ, aC, aD]; refine hatH 14 rfl (by rintro W ⟨h0, h1⟩; go_simp; try rfl) HSv ?_; simp only [aZ, aC, aD]; refine hend 15 ?_; simp only [aF, aG]; go_wp2_with fail; go_ret2; exact ⟨by rw [HR2.out, HL.out]; rfl, HP4.out.b⟩
       . intro K hK; rw [if_pos (by rfl)]
         try go_simp
         go_at_call 249; refine (HT.out _).mono ?_; rintro e w3 ⟨rfl, hb3⟩; have HB3 := H_ hb3; have HP3 := H_ (HP2.out.below hb3); clear hb3; have HSv : (fun Y : World => Y.cell? ⟨w.heap.size, 0, none⟩ = some (.int .i64 (c : Int)) /\ Y.cell? ⟨w.heap.size, 1, none⟩ = some (.int .i64 (i : Int))) w3 := HP3.out.c0; refine hK _ _ (fun _ => HSv) ?_
         try simp only [aZ, aA, aE, aB, aC, aD]
         refine hone 6 rfl fun K hK => ?_
         try go_simp
         have HB4 := H_ (b1 w3 (.cells #[.int .u8 (c : Int), .int .u8 (i : Int)] 5 (0, 0))); have HG := H_ (heap_alloc_new w3 (.cells #[.int .u8 (c : Int), .int .u8 (i : Int)] 5 (0, 0))); have HP4 := H_ (HP3.out.below HB4.out); generalize w3.alloc (.cells #[.int .u8 (c : Int), .int .u8 (i : Int)] 5 (0, 0)) = w4 at *; have HSv : (fun Y : World => Y.cell? ⟨w.heap.size, 0, none⟩ = some (.int .i64 (c : Int)) /\ Y.cell? ⟨w.heap.size, 1, none⟩ = some (.int .i64 (i : Int))) w4 := HP4.out.c0; refine hK _ _ (fun _ => HSv) ?_
         try simp only [aZ, aA, aE, aB, aC, aD]
         refine wpAnyH_1 7 rfl (by kernel_rfl) ?_; intro K hK; rw [if_pos (by rfl)]; have hcv := two_conv c i hc hi _ w4 HG.out
         try go_simp
         try rw [hcv]
         try simp only [Result.andThen_ok]
         refine hK _ _ (fun _ => HSv) ?_
         try simp only [aZ, aA, aE, aB, aC, aD]
         refine hatH 12 rfl (by rintro W ⟨h0, h1⟩; go_simp; try rfl) HSv ?_; simp only [aZ, aC, aD]; refine hatH 14 rfl (by rintro W ⟨h0, h1⟩; go_simp; try rfl) HSv ?_; simp only [aZ, aC, aD]; refine hend 15 ?_; simp only [aF, aG]; go_wp2_with fail; go_ret2; exact ⟨by rw [HR2.out, HL.out]; rfl, HP4.out.b⟩
   . have qe : (pe != 0) = true := by simpa using hpe
     have HR2 := H_ (show R = .tuple #[.string noB, .int .i64 pe] from by rw [HR.out, if_pos hpe]); clear hpe; go_wp2_with fail; go_ret2; exact ⟨by rw [HR2.out]; rfl, HP1.out.b⟩
set_option maxRecDepth 100000 in
theorem putP9_good_data (c i : Nat) (hc : c <= 255) (hi : i <= 255) (h : confB c = false) (hn : pl.length = 0) (hdz : pd.size <= 100000000) :
 Calls Tryz.prog 229 #[.agg #[.int .i64 (c : Int), .int .i64 (i : Int), .slice a1 pl.length k1, .string pd]] w fun e w' => e = .returned (if 1488 < pd.size then .tuple #[.string noB, .int .i64 2] else .tuple #[.string (layB c i pd), .int .i64 0]) /\ Below w.heap.size w w' := by
 obtain ⟨R, hR⟩ : ∃ R : Value, R = (if 1488 < pd.size then .tuple #[.string noB, .int .i64 2] else .tuple #[.string (layB c i pd), .int .i64 0]) := ⟨_, rfl⟩; rw [<- hR]; have HR := H_ hR; clear hR; have q1 : decide ((c : Int) < 0) = false := by simp
 have q2 : decide ((255 : Int) < (c : Int)) = false := by simp; omega
 have q3 : decide ((i : Int) < 0) = false := by simp
 have q4 : decide ((255 : Int) < (i : Int)) = false := by simp; omega
 have q5 : decide ((0 : Int) < (pl.length : Int)) = false := decide_eq_false (by omega); have HC := H_ (fun w => conf9_any (c : Int) w); rw [h] at HC; have HP0 : Hid (PutW w (w.alloc (.cells #[.int .i64 (c : Int), .int .i64 (i : Int), .slice a1 pl.length k1, .string pd] 93 (0, 0))) c i (.slice a1 pl.length k1) pd) := H_ ⟨b1 w _, heap_alloc_new w _⟩; generalize pl.length = pn at *; subst hn; clear h
 by_cases h5 : pd = ⟨#[]⟩
 . subst h5; have hd0 : (ByteArray.mk #[]).size = 0 := rfl; have HRL := HR; go_enter Tryz.func229, Tryz.ntmps229; have HP1 := HP0; clear HP0; generalize hw1 : w.alloc (.cells #[.int .i64 (c : Int), .int .i64 (i : Int), .slice a1 0 k1, .string ⟨#[]⟩] 93 (0, 0)) = w1 at *; have y0 := cellOf HP1.out.z 0 _ rfl; have y1 := cellOf HP1.out.z 1 _ rfl; have y2 := cellOf HP1.out.z 2 _ rfl; have y3 := cellOf HP1.out.z 3 _ rfl
   by_cases hlg : 1488 < (ByteArray.mk #[]).size
   . exact absurd hlg (by decide)
   . have HR2 := H_ (show R = .tuple #[.string (layB c i (ByteArray.mk #[])), .int .i64 0] from by rw [HRL.out, if_neg hlg]); have d1 : decide ((1488 : Int) < ((ByteArray.mk #[]).size : Int)) = false := by simp; omega
     have ha : wrap64 (((ByteArray.mk #[]).size : Int) + 4) = (((ByteArray.mk #[]).size + 4 : Nat) : Int) := by unfold wrap64; omega
     have ha2 : IntKind.i64.wrap (((ByteArray.mk #[]).size : Int) + 4) = (((ByteArray.mk #[]).size + 4 : Nat) : Int) := by unfold IntKind.wrap; simp [IntKind.bits, IntKind.signed]; omega
     have hcw : IntKind.u8.wrap (c : Int) = (c : Int) := by unfold IntKind.wrap; simp [IntKind.bits, IntKind.signed]; omega
     have hiw : IntKind.u8.wrap (i : Int) = (i : Int) := by unfold IntKind.wrap; simp [IntKind.bits, IntKind.signed]; omega
     have HT := H_ (fun w => two9_any ((ByteArray.mk #[]).size + 4) w (by omega)); unfold twoB at HT; have HL := H_ (show layB c i (ByteArray.mk #[]) = (ByteArray.mk #[UInt8.ofNat c, UInt8.ofNat i] ++ ByteArray.mk #[UInt8.ofNat (((ByteArray.mk #[]).size + 4) / 256), UInt8.ofNat ((ByteArray.mk #[]).size + 4)]) ++ (ByteArray.mk #[]) from rfl); have sz1 : (ByteArray.mk #[UInt8.ofNat (((ByteArray.mk #[]).size + 4) / 256), UInt8.ofNat ((ByteArray.mk #[]).size + 4)]).size = 2 := rfl; generalize ByteArray.mk #[UInt8.ofNat (((ByteArray.mk #[]).size + 4) / 256), UInt8.ofNat ((ByteArray.mk #[]).size + 4)] = x1 at *; have sz2 : (ByteArray.mk #[UInt8.ofNat c, UInt8.ofNat i]).size = 2 := rfl; have hlim : ¬ (9223372036854775807 < 4 + (ByteArray.mk #[]).size) := by omega
     have sz3 : (ByteArray.mk #[UInt8.ofNat c, UInt8.ofNat i] ++ x1).size = 4 := by rw [ByteArray.size_append, sz1, sz2]
     clear hlg
     go_wp2_with (go_at_call 248; refine (HC.out _).mono ?_; rintro e w0 ⟨rfl, rfl⟩)
     have HSv : (fun Y : World => Y.cell? ⟨w.heap.size, 0, none⟩ = some (.int .i64 (c : Int)) /\ Y.cell? ⟨w.heap.size, 1, none⟩ = some (.int .i64 (i : Int))) w1.drew := HP1.out.c0; have HP2 := H_ (HP1.out.below (Below.refl _ _).drew); refine wp_region_H (rgH 0 15) (fun Y : World => Y.cell? ⟨w.heap.size, 0, none⟩ = some (.int .i64 (c : Int)) /\ Y.cell? ⟨w.heap.size, 1, none⟩ = some (.int .i64 (i : Int))) (by kernel_rfl) ?_; generalize w1.drew = w2 at *; refine hatH 0 rfl (by rintro W ⟨h0, h1⟩; go_simp; try rfl) HSv ?_; simp only [aZ, aC, aD]; refine hatH 1 rfl (by rintro W ⟨h0, h1⟩; go_simp; try rfl) HSv ?_; simp only [aZ, aC, aD]; refine hatH 2 rfl (by rintro W ⟨h0, h1⟩; go_simp; try rfl) HSv ?_; simp only [aZ, aC, aD]; refine hatH 3 rfl (by rintro W ⟨h0, h1⟩; go_simp; try rfl) HSv ?_; simp only [aZ, aC, aD]; refine hatH 4 rfl (by rintro W ⟨h0, h1⟩; go_simp; try rfl) HSv ?_; simp only [aZ, aC, aD]; refine hatH 5 rfl (by rintro W ⟨h0, h1⟩; go_simp; try rfl) HSv ?_; simp only [aZ, aC, aD]; refine hatH 8 rfl (by rintro W ⟨h0, h1⟩; go_simp; try rfl) HSv ?_; simp only [aZ, aC, aD]; refine hatH 9 rfl (by rintro W ⟨h0, h1⟩; go_simp; try rfl) HSv ?_; simp only [aZ, aC, aD]; refine hatH 10 rfl (by rintro W ⟨h0, h1⟩; go_simp; try rfl) HSv ?_; simp only [aZ, aC, aD]; refine hatH 13 rfl (by rintro W ⟨h0, h1⟩; go_simp; try rfl) HSv ?_; simp only [aZ, aC, aD]; refine wpAnyH_2 6 11 rfl rfl (by kernel_rfl) ?_ ?_
     . intro K hK; rw [if_pos (by rfl)]
       try go_simp
       have HB3 := H_ (b1 w2 (.cells #[.int .u8 (c : Int), .int .u8 (i : Int)] 5 (0, 0))); have HG := H_ (heap_alloc_new w2 (.cells #[.int .u8 (c : Int), .int .u8 (i : Int)] 5 (0, 0))); have HP3 := H_ (HP2.out.below HB3.out); generalize w2.alloc (.cells #[.int .u8 (c : Int), .int .u8 (i : Int)] 5 (0, 0)) = w3 at *; have HSv : (fun Y : World => Y.cell? ⟨w.heap.size, 0, none⟩ = some (.int .i64 (c : Int)) /\ Y.cell? ⟨w.heap.size, 1, none⟩ = some (.int .i64 (i : Int))) w3 := HP3.out.c0; refine hK _ _ (fun _ => HSv) ?_
       try simp only [aZ, aA, aE, aB, aC, aD]
       refine wpAnyH_2 7 11 rfl rfl (by kernel_rfl) ?_ ?_
       . intro K hK; rw [if_pos (by rfl)]; have hcv := two_conv c i hc hi _ w3 HG.out
         try go_simp
         try rw [hcv]
         try simp only [Result.andThen_ok]
         refine hK _ _ (fun _ => HSv) ?_
         try simp only [aZ, aA, aE, aB, aC, aD]
         refine hone 11 rfl fun K hK => ?_
         try go_simp
         go_at_call 249; refine (HT.out _).mono ?_; rintro e w4 ⟨rfl, hb4⟩; have HB4 := H_ hb4; have HP4 := H_ (HP3.out.below hb4); clear hb4; have HSv : (fun Y : World => Y.cell? ⟨w.heap.size, 0, none⟩ = some (.int .i64 (c : Int)) /\ Y.cell? ⟨w.heap.size, 1, none⟩ = some (.int .i64 (i : Int))) w4 := HP4.out.c0; refine hK _ _ (fun _ => HSv) ?_
         try simp only [aZ, aA, aE, aB, aC, aD]
         refine hatH 12 rfl (by rintro W ⟨h0, h1⟩; go_simp; try rfl) HSv ?_; simp only [aZ, aC, aD]; refine hatH 14 rfl (by rintro W ⟨h0, h1⟩; go_simp; try rfl) HSv ?_; simp only [aZ, aC, aD]; refine hend 15 ?_; simp only [aF, aG]; go_wp2_with fail; go_ret2; exact ⟨by rw [HR2.out, HL.out]; rfl, HP4.out.b⟩
       . intro K hK; rw [if_pos (by rfl)]
         try go_simp
         go_at_call 249; refine (HT.out _).mono ?_; rintro e w4 ⟨rfl, hb4⟩; have HB4 := H_ hb4; have HP4 := H_ (HP3.out.below hb4); clear hb4; have HSv : (fun Y : World => Y.cell? ⟨w.heap.size, 0, none⟩ = some (.int .i64 (c : Int)) /\ Y.cell? ⟨w.heap.size, 1, none⟩ = some (.int .i64 (i : Int))) w4 := HP4.out.c0; refine hK _ _ (fun _ => HSv) ?_
         try simp only [aZ, aA, aE, aB, aC, aD]
         have HG := H_ ((HB4.out.block _ (Array.getElem?_eq_some_iff.1 HG.out).1).trans HG.out); refine wpAnyH_1 7 rfl (by kernel_rfl) ?_; intro K hK; rw [if_pos (by rfl)]; have hcv := two_conv c i hc hi _ w4 HG.out
         try go_simp
         try rw [hcv]
         try simp only [Result.andThen_ok]
         refine hK _ _ (fun _ => HSv) ?_
         try simp only [aZ, aA, aE, aB, aC, aD]
         refine hatH 12 rfl (by rintro W ⟨h0, h1⟩; go_simp; try rfl) HSv ?_; simp only [aZ, aC, aD]; refine hatH 14 rfl (by rintro W ⟨h0, h1⟩; go_simp; try rfl) HSv ?_; simp only [aZ, aC, aD]; refine hend 15 ?_; simp only [aF, aG]; go_wp2_with fail; go_ret2; exact ⟨by rw [HR2.out, HL.out]; rfl, HP4.out.b⟩
     . intro K hK; rw [if_pos (by rfl)]
       try go_simp
       go_at_call 249; refine (HT.out _).mono ?_; rintro e w3 ⟨rfl, hb3⟩; have HB3 := H_ hb3; have HP3 := H_ (HP2.out.below hb3); clear hb3; have HSv : (fun Y : World => Y.cell? ⟨w.heap.size, 0, none⟩ = some (.int .i64 (c : Int)) /\ Y.cell? ⟨w.heap.size, 1, none⟩ = some (.int .i64 (i : Int))) w3 := HP3.out.c0; refine hK _ _ (fun _ => HSv) ?_
       try simp only [aZ, aA, aE, aB, aC, aD]
       refine hone 6 rfl fun K hK => ?_
       try go_simp
       have HB4 := H_ (b1 w3 (.cells #[.int .u8 (c : Int), .int .u8 (i : Int)] 5 (0, 0))); have HG := H_ (heap_alloc_new w3 (.cells #[.int .u8 (c : Int), .int .u8 (i : Int)] 5 (0, 0))); have HP4 := H_ (HP3.out.below HB4.out); generalize w3.alloc (.cells #[.int .u8 (c : Int), .int .u8 (i : Int)] 5 (0, 0)) = w4 at *; have HSv : (fun Y : World => Y.cell? ⟨w.heap.size, 0, none⟩ = some (.int .i64 (c : Int)) /\ Y.cell? ⟨w.heap.size, 1, none⟩ = some (.int .i64 (i : Int))) w4 := HP4.out.c0; refine hK _ _ (fun _ => HSv) ?_
       try simp only [aZ, aA, aE, aB, aC, aD]
       refine wpAnyH_1 7 rfl (by kernel_rfl) ?_; intro K hK; rw [if_pos (by rfl)]; have hcv := two_conv c i hc hi _ w4 HG.out
       try go_simp
       try rw [hcv]
       try simp only [Result.andThen_ok]
       refine hK _ _ (fun _ => HSv) ?_
       try simp only [aZ, aA, aE, aB, aC, aD]
       refine hatH 12 rfl (by rintro W ⟨h0, h1⟩; go_simp; try rfl) HSv ?_; simp only [aZ, aC, aD]; refine hatH 14 rfl (by rintro W ⟨h0, h1⟩; go_simp; try rfl) HSv ?_; simp only [aZ, aC, aD]; refine hend 15 ?_; simp only [aF, aG]; go_wp2_with fail; go_ret2; exact ⟨by rw [HR2.out, HL.out]; rfl, HP4.out.b⟩
 . have hd1 : pd.toList.isEmpty = false := by rw [isE]; have := mt (strE pd).2 h5; simp [this]
   have HRL := HR; go_enter Tryz.func229, Tryz.ntmps229; have HP1 := HP0; clear HP0; generalize hw1 : w.alloc (.cells #[.int .i64 (c : Int), .int .i64 (i : Int), .slice a1 0 k1, .string pd] 93 (0, 0)) = w1 at *; have y0 := cellOf HP1.out.z 0 _ rfl; have y1 := cellOf HP1.out.z 1 _ rfl; have y2 := cellOf HP1.out.z 2 _ rfl; have y3 := cellOf HP1.out.z 3 _ rfl
   by_cases hlg : 1488 < pd.size
   . have HR2 := H_ (show R = .tuple #[.string noB, .int .i64 2] from by rw [HRL.out, if_pos hlg]); have d1 : decide ((1488 : Int) < (pd.size : Int)) = true := by simp; omega
     clear hlg
     go_wp2_with (go_at_call 248; refine (HC.out _).mono ?_; rintro e w0 ⟨rfl, rfl⟩)
     go_ret2; exact ⟨by rw [HR2.out]; rfl, HP1.out.b⟩
   . have HR2 := H_ (show R = .tuple #[.string (layB c i pd), .int .i64 0] from by rw [HRL.out, if_neg hlg]); have d1 : decide ((1488 : Int) < (pd.size : Int)) = false := by simp; omega
     have ha : wrap64 ((pd.size : Int) + 4) = ((pd.size + 4 : Nat) : Int) := by unfold wrap64; omega
     have ha2 : IntKind.i64.wrap ((pd.size : Int) + 4) = ((pd.size + 4 : Nat) : Int) := by unfold IntKind.wrap; simp [IntKind.bits, IntKind.signed]; omega
     have hcw : IntKind.u8.wrap (c : Int) = (c : Int) := by unfold IntKind.wrap; simp [IntKind.bits, IntKind.signed]; omega
     have hiw : IntKind.u8.wrap (i : Int) = (i : Int) := by unfold IntKind.wrap; simp [IntKind.bits, IntKind.signed]; omega
     have HT := H_ (fun w => two9_any (pd.size + 4) w (by omega)); unfold twoB at HT; have HL := H_ (show layB c i pd = (ByteArray.mk #[UInt8.ofNat c, UInt8.ofNat i] ++ ByteArray.mk #[UInt8.ofNat ((pd.size + 4) / 256), UInt8.ofNat (pd.size + 4)]) ++ pd from rfl); have sz1 : (ByteArray.mk #[UInt8.ofNat ((pd.size + 4) / 256), UInt8.ofNat (pd.size + 4)]).size = 2 := rfl; generalize ByteArray.mk #[UInt8.ofNat ((pd.size + 4) / 256), UInt8.ofNat (pd.size + 4)] = x1 at *; have sz2 : (ByteArray.mk #[UInt8.ofNat c, UInt8.ofNat i]).size = 2 := rfl; have hlim : ¬ (9223372036854775807 < 4 + pd.size) := by omega
     have sz3 : (ByteArray.mk #[UInt8.ofNat c, UInt8.ofNat i] ++ x1).size = 4 := by rw [ByteArray.size_append, sz1, sz2]
     clear hlg
     go_wp2_with (go_at_call 248; refine (HC.out _).mono ?_; rintro e w0 ⟨rfl, rfl⟩)
     have HSv : (fun Y : World => Y.cell? ⟨w.heap.size, 0, none⟩ = some (.int .i64 (c : Int)) /\ Y.cell? ⟨w.heap.size, 1, none⟩ = some (.int .i64 (i : Int))) w1.drew := HP1.out.c0; have HP2 := H_ (HP1.out.below (Below.refl _ _).drew); refine wp_region_H (rgH 0 15) (fun Y : World => Y.cell? ⟨w.heap.size, 0, none⟩ = some (.int .i64 (c : Int)) /\ Y.cell? ⟨w.heap.size, 1, none⟩ = some (.int .i64 (i : Int))) (by kernel_rfl) ?_; generalize w1.drew = w2 at *; refine hatH 0 rfl (by rintro W ⟨h0, h1⟩; go_simp; try rfl) HSv ?_; simp only [aZ, aC, aD]; refine hatH 1 rfl (by rintro W ⟨h0, h1⟩; go_simp; try rfl) HSv ?_; simp only [aZ, aC, aD]; refine hatH 2 rfl (by rintro W ⟨h0, h1⟩; go_simp; try rfl) HSv ?_; simp only [aZ, aC, aD]; refine hatH 3 rfl (by rintro W ⟨h0, h1⟩; go_simp; try rfl) HSv ?_; simp only [aZ, aC, aD]; refine hatH 4 rfl (by rintro W ⟨h0, h1⟩; go_simp; try rfl) HSv ?_; simp only [aZ, aC, aD]; refine hatH 5 rfl (by rintro W ⟨h0, h1⟩; go_simp; try rfl) HSv ?_; simp only [aZ, aC, aD]; refine hatH 8 rfl (by rintro W ⟨h0, h1⟩; go_simp; try rfl) HSv ?_; simp only [aZ, aC, aD]; refine hatH 9 rfl (by rintro W ⟨h0, h1⟩; go_simp; try rfl) HSv ?_; simp only [aZ, aC, aD]; refine hatH 10 rfl (by rintro W ⟨h0, h1⟩; go_simp; try rfl) HSv ?_; simp only [aZ, aC, aD]; refine hatH 13 rfl (by rintro W ⟨h0, h1⟩; go_simp; try rfl) HSv ?_; simp only [aZ, aC, aD]; refine wpAnyH_2 6 11 rfl rfl (by kernel_rfl) ?_ ?_
     . intro K hK; rw [if_pos (by rfl)]
       try go_simp
       have HB3 := H_ (b1 w2 (.cells #[.int .u8 (c : Int), .int .u8 (i : Int)] 5 (0, 0))); have HG := H_ (heap_alloc_new w2 (.cells #[.int .u8 (c : Int), .int .u8 (i : Int)] 5 (0, 0))); have HP3 := H_ (HP2.out.below HB3.out); generalize w2.alloc (.cells #[.int .u8 (c : Int), .int .u8 (i : Int)] 5 (0, 0)) = w3 at *; have HSv : (fun Y : World => Y.cell? ⟨w.heap.size, 0, none⟩ = some (.int .i64 (c : Int)) /\ Y.cell? ⟨w.heap.size, 1, none⟩ = some (.int .i64 (i : Int))) w3 := HP3.out.c0; refine hK _ _ (fun _ => HSv) ?_
       try simp only [aZ, aA, aE, aB, aC, aD]
       refine wpAnyH_2 7 11 rfl rfl (by kernel_rfl) ?_ ?_
       . intro K hK; rw [if_pos (by rfl)]; have hcv := two_conv c i hc hi _ w3 HG.out
         try go_simp
         try rw [hcv]
         try simp only [Result.andThen_ok]
         refine hK _ _ (fun _ => HSv) ?_
         try simp only [aZ, aA, aE, aB, aC, aD]
         refine hone 11 rfl fun K hK => ?_
         try go_simp
         go_at_call 249; refine (HT.out _).mono ?_; rintro e w4 ⟨rfl, hb4⟩; have HB4 := H_ hb4; have HP4 := H_ (HP3.out.below hb4); clear hb4; have HSv : (fun Y : World => Y.cell? ⟨w.heap.size, 0, none⟩ = some (.int .i64 (c : Int)) /\ Y.cell? ⟨w.heap.size, 1, none⟩ = some (.int .i64 (i : Int))) w4 := HP4.out.c0; refine hK _ _ (fun _ => HSv) ?_
         try simp only [aZ, aA, aE, aB, aC, aD]
         refine hatH 12 rfl (by rintro W ⟨h0, h1⟩; go_simp; try rfl) HSv ?_; simp only [aZ, aC, aD]; refine hatH 14 rfl (by rintro W ⟨h0, h1⟩; go_simp; try rfl) HSv ?_; simp only [aZ, aC, aD]; refine hend 15 ?_; simp only [aF, aG]; go_wp2_with fail; go_ret2; exact ⟨by rw [HR2.out, HL.out]; rfl, HP4.out.b⟩
       . intro K hK; rw [if_pos (by rfl)]
         try go_simp
         go_at_call 249; refine (HT.out _).mono ?_; rintro e w4 ⟨rfl, hb4⟩; have HB4 := H_ hb4; have HP4 := H_ (HP3.out.below hb4); clear hb4; have HSv : (fun Y : World => Y.cell? ⟨w.heap.size, 0, none⟩ = some (.int .i64 (c : Int)) /\ Y.cell? ⟨w.heap.size, 1, none⟩ = some (.int .i64 (i : Int))) w4 := HP4.out.c0; refine hK _ _ (fun _ => HSv) ?_
         try simp only [aZ, aA, aE, aB, aC, aD]
         have HG := H_ ((HB4.out.block _ (Array.getElem?_eq_some_iff.1 HG.out).1).trans HG.out); refine wpAnyH_1 7 rfl (by kernel_rfl) ?_; intro K hK; rw [if_pos (by rfl)]; have hcv := two_conv c i hc hi _ w4 HG.out
         try go_simp
         try rw [hcv]
         try simp only [Result.andThen_ok]
         refine hK _ _ (fun _ => HSv) ?_
         try simp only [aZ, aA, aE, aB, aC, aD]
         refine hatH 12 rfl (by rintro W ⟨h0, h1⟩; go_simp; try rfl) HSv ?_; simp only [aZ, aC, aD]; refine hatH 14 rfl (by rintro W ⟨h0, h1⟩; go_simp; try rfl) HSv ?_; simp only [aZ, aC, aD]; refine hend 15 ?_; simp only [aF, aG]; go_wp2_with fail; go_ret2; exact ⟨by rw [HR2.out, HL.out]; rfl, HP4.out.b⟩
     . intro K hK; rw [if_pos (by rfl)]
       try go_simp
       go_at_call 249; refine (HT.out _).mono ?_; rintro e w3 ⟨rfl, hb3⟩; have HB3 := H_ hb3; have HP3 := H_ (HP2.out.below hb3); clear hb3; have HSv : (fun Y : World => Y.cell? ⟨w.heap.size, 0, none⟩ = some (.int .i64 (c : Int)) /\ Y.cell? ⟨w.heap.size, 1, none⟩ = some (.int .i64 (i : Int))) w3 := HP3.out.c0; refine hK _ _ (fun _ => HSv) ?_
       try simp only [aZ, aA, aE, aB, aC, aD]
       refine hone 6 rfl fun K hK => ?_
       try go_simp
       have HB4 := H_ (b1 w3 (.cells #[.int .u8 (c : Int), .int .u8 (i : Int)] 5 (0, 0))); have HG := H_ (heap_alloc_new w3 (.cells #[.int .u8 (c : Int), .int .u8 (i : Int)] 5 (0, 0))); have HP4 := H_ (HP3.out.below HB4.out); generalize w3.alloc (.cells #[.int .u8 (c : Int), .int .u8 (i : Int)] 5 (0, 0)) = w4 at *; have HSv : (fun Y : World => Y.cell? ⟨w.heap.size, 0, none⟩ = some (.int .i64 (c : Int)) /\ Y.cell? ⟨w.heap.size, 1, none⟩ = some (.int .i64 (i : Int))) w4 := HP4.out.c0; refine hK _ _ (fun _ => HSv) ?_
       try simp only [aZ, aA, aE, aB, aC, aD]
       refine wpAnyH_1 7 rfl (by kernel_rfl) ?_; intro K hK; rw [if_pos (by rfl)]; have hcv := two_conv c i hc hi _ w4 HG.out
       try go_simp
       try rw [hcv]
       try simp only [Result.andThen_ok]
       refine hK _ _ (fun _ => HSv) ?_
       try simp only [aZ, aA, aE, aB, aC, aD]
       refine hatH 12 rfl (by rintro W ⟨h0, h1⟩; go_simp; try rfl) HSv ?_; simp only [aZ, aC, aD]; refine hatH 14 rfl (by rintro W ⟨h0, h1⟩; go_simp; try rfl) HSv ?_; simp only [aZ, aC, aD]; refine hend 15 ?_; simp only [aF, aG]; go_wp2_with fail; go_ret2; exact ⟨by rw [HR2.out, HL.out]; rfl, HP4.out.b⟩
end
theorem size_zero {d : ByteArray} (h : d = ⟨#[]⟩) : d.size = 0 := (strE d).1 h
theorem putPk_bad {p : Pk} (h : putBad p = true) : putPk p = (noB, 1) := by unfold putPk; rw [if_pos h]
theorem putP9_any (p : Pk) (po : Value) (ok : Nat -> Prop) (w : World) (ho : Opts w ok po p.o) (hl : p.o.length <= 1000000) (hv : ∀ o ∈ p.o, o.v.size <= 100000) (hd : p.d.size <= 100000000) :
 Calls Tryz.prog 229 #[pkV p po] w fun e w' => e = .returned (.tuple #[.string (putPk p).1, .int .i64 (putPk p).2]) /\ Below w.heap.size w w' := by
 obtain ⟨a1, k1, rfl, -, -⟩ := ho.form; obtain ⟨pc, pi, pl, pd⟩ := p; simp only at ho hl hv hd ⊢
 unfold pkV
 have hB : ∀ h : putBad ⟨pc, pi, pl, pd⟩ = true, (Calls Tryz.prog 229 #[.agg #[.int .i64 pc, .int .i64 pi, .slice a1 pl.length k1, .string pd]] w fun e w' => e = .returned (.tuple #[.string noB, .int .i64 1]) /\ Below w.heap.size w w') ->
  Calls Tryz.prog 229 #[.agg #[.int .i64 pc, .int .i64 pi, .slice a1 pl.length k1, .string pd]] w fun e w' => e = .returned (.tuple #[.string (putPk ⟨pc, pi, pl, pd⟩).1, .int .i64 (putPk ⟨pc, pi, pl, pd⟩).2]) /\ Below w.heap.size w w' := fun h hc => by
  rw [putPk_bad h]; exact hc
 by_cases c1 : pc < 0
 . exact hB (by unfold putBad numB; simp; omega) (putP9_b1 c1)
 by_cases c2 : 255 < pc
 . exact hB (by unfold putBad numB; simp; omega) (putP9_b2 (by omega) c2)
 by_cases c3 : pi < 0
 . exact hB (by unfold putBad numB; simp; omega) (putP9_b3 (by omega) (by omega) c3)
 by_cases c4 : 255 < pi
 . exact hB (by unfold putBad numB; simp; omega) (putP9_b4 (by omega) (by omega) (by omega) c4)
 have hnum : numB ⟨pc, pi, pl, pd⟩ = true := by unfold numB; simp; omega
 obtain ⟨c, rfl⟩ : ∃ c : Nat, pc = (c : Int) := ⟨pc.toNat, by omega⟩; obtain ⟨i, rfl⟩ : ∃ i : Nat, pi = (i : Int) := ⟨pi.toNat, by omega⟩; have hc : c <= 255 := by omega
 have hi : i <= 255 := by omega
 have e1 : (c : Int).toNat = c := by omega
 have e2 : (i : Int).toNat = i := by omega
 cases hcf : confB (c : Int) with
 | true =>
  have hcf' : hasO (c : Int) = true := hcf
  by_cases hpd : pd = ⟨#[]⟩
  . have hs := size_zero hpd; have hnb : putBad ⟨(c : Int), (i : Int), pl, pd⟩ = false := by unfold putBad; rw [hnum]; simp [hcf', hs]
    have hap : putS pl ++ pd = putS pl := by rw [hpd]; exact ByteArray.append_empty
    refine (putP9_good_conf c i hc hi (.slice none 0 0) ok ho hl hv hcf hpd).mono ?_; rintro e w' ⟨rfl, hb⟩; refine ⟨?_, hb⟩; unfold putPk; simp only [hnb, Bool.false_eq_true, if_false, hap, e1, e2]
    by_cases hp : putE pl ≠ 0
    . rw [if_pos hp, if_pos hp]
    . rw [if_neg hp, if_neg hp]
      by_cases hz : 1488 < (putS pl).size
      . rw [if_pos hz, if_pos hz]
      . rw [if_neg hz, if_neg hz]
  . have hs : pd.size ≠ 0 := mt (strE pd).2 hpd; exact hB (by unfold putBad; rw [hnum]; simp [hcf', hs]) (putP9_b6 (by omega) (by omega) (by omega) (by omega) hpd hcf)
 | false =>
  have hcf' : hasO (c : Int) = false := hcf
  by_cases hpl : 0 < pl.length
  . exact hB (by unfold putBad; rw [hnum]; simp only [hcf', decide_eq_true hpl]; rfl) (putP9_b5 (by omega) (by omega) (by omega) (by omega) hpl hcf)
  . obtain rfl : pl = [] := List.eq_nil_of_length_eq_zero (by omega); have hnb : putBad ⟨(c : Int), (i : Int), [], pd⟩ = false := by unfold putBad; rw [hnum]; simp [hcf']
    have h0 : putE [] = 0 := rfl; have h1 : putS [] = ⟨#[]⟩ := rfl; have hap : putS [] ++ pd = pd := by rw [h1]; exact ByteArray.empty_append
    refine (putP9_good_data c i hc hi hcf rfl hd).mono ?_; rintro e w' ⟨rfl, hb⟩; refine ⟨?_, hb⟩; unfold putPk; simp only [hnb, Bool.false_eq_true, hap, e1, e2, h0, ne_eq, not_true_eq_false, if_false]
    by_cases hz : 1488 < pd.size
    . rw [if_pos hz, if_pos hz]
    . rw [if_neg hz, if_neg hz]
def i77 : Int := -77
def nV (l : List Int) : List Value := (intL l).flatten
theorem nV_len (l : List Int) : (nV l).length = l.length * 1 := by
 unfold nV; rw [flatten_len _ (intL_k l), intL_len]
theorem nV_one (l : List Int) : ∀ u ∈ nV l, u.oneCell' = true := by
 intro u hu; simp only [nV, List.mem_flatten, intL, List.mem_map] at hu; obtain ⟨_, ⟨o, _, rfl⟩, hu⟩ := hu; rw [List.mem_singleton.1 hu]; rfl
structure LentI (w w' : World) (v : Value) (l : List Int) : Prop where
 ex : ∃ g c, v = .slice (some ⟨g, 0, none⟩) l.length c /\ l.length + 1 <= c /\ c <= maxLen /\ w.heap.size <= g /\ BRow 3 1 w' (.slice (some ⟨g, 0, none⟩) (l.length + 1) c) (l.length + 1) (intL (l ++ [i77])).flatten
 b : Below w.heap.size w w'
theorem pkL_set : ∀ (L : List (Pk × Value)) (k : Nat) (hk : k < L.length) (v : Value), (pkL L).flatten.set (k * 4 + 2) v = (pkL (L.set k (L[k].1, v))).flatten := by
 intro L
 induction L with
 | nil => intro k hk; exact absurd hk (Nat.not_lt_zero _)
 | cons x L ih =>
  intro k hk v; have e : (pkL (x :: L)).flatten = .int .i64 x.1.code :: .int .i64 x.1.id :: x.2 :: .string x.1.d :: (pkL L).flatten := rfl
  cases k with
  | zero => rw [e]; rfl
  | succ k =>
   have h := ih k (by simpa using hk) v; rw [e, show (k + 1) * 4 + 2 = k * 4 + 2 + 1 + 1 + 1 + 1 by omega]; simp only [List.set_cons_succ, List.getElem_cons_succ, h]; rfl
structure OwnP (w : World) (a : Value) (L : List (Pk × Value)) : Prop where
 r : BRow 93 4 w a L.length (pkL L).flatten
 o : ∀ p ∈ L, BRow 91 2 w p.2 p.1.o.length (oV p.1.o)
 m : ∀ p ∈ L, p.1.o.length <= 100000
 l : L.length <= 1000
theorem pk_opt_ne : (93 : TypeId) ≠ 91 := by decide
theorem OwnP.below {w w' : World} {a : Value} {L : List (Pk × Value)} (h : OwnP w a L) (hb : Below w.heap.size w w') : OwnP w' a L := ⟨h.r.below hb, fun p hp => (h.o p hp).below hb, h.m, h.l⟩
theorem OwnP.pk {w : World} {a : Value} {L : List (Pk × Value)} (h : OwnP w a L) : PkR w (fun _ => True) a L := by
 refine ⟨Rec.mono (Rec.of_owns h.r (pkL_len L).symm (pkL_k L) (by have := h.l; unfold maxLen; omega)) (fun _ _ => trivial), fun p hp => ?_, h.m⟩; exact Rec.mono (ORow.opts (B := 0) (h.o p hp) (by have := h.m p hp; unfold maxLen; omega)) (fun _ _ => trivial)
structure CopyP (w wr : World) (v : Value) (L L' : List (Pk × Value)) (k : Nat) : Prop where
 own : OwnP wr v L'
 f : ∀ g, v.ownBlock = some g -> w.heap.size <= g
 b : Below w.heap.size w wr
 e : L'.map Prod.fst = L.map Prod.fst
 new : ∀ j (hj : j < L'.length), j < k -> ∀ g, L'[j].2.ownBlock = some g -> w.heap.size <= g
set_option maxRecDepth 100000 in
theorem copyK_any (L : List (Pk × Value)) (a : Value) (w : World) (h : OwnP w a L) :
 Calls Tryz.prog 237 #[a] w fun e w' => ∃ v L', e = .returned v /\ CopyP w w' v L L' L.length := by
 obtain ⟨sa, c, rfl, hc, hm⟩ := h.r.form; have hlen := h.l
 have H := H_ (A_ h (A_ h.r.rd (A_ h.r.hnil (A_ h.r.len (show ∀ u ∈ (pkL L).flatten, u.oneCell' = true by
  intro u hu; simp only [List.mem_flatten, pkL, List.mem_map] at hu; obtain ⟨_, ⟨p, hp, rfl⟩, hu⟩ := hu; obtain ⟨s1, q1, e1, -, -⟩ := (h.o p hp).form; simp only [pkCells, List.mem_cons, List.not_mem_nil, or_false] at hu
  rcases hu with rfl | rfl | rfl | rfl
  . rfl
  . rfl
  . rw [e1]; rfl
  . rfl)))))
 clear h; obtain ⟨len, hln⟩ : ∃ len, len = L.length := ⟨_, rfl⟩; have HLN := H_ hln; rw [<- hln] at hc hlen ⊢; rw [<- hln] at H; clear hln; go_enter Tryz.func237, Tryz.ntmps237
 go_wp2_with (
  at_builtin; refine wpl_append_row pk_row rfl _ _ rfl _ 0 [] rfl (BRow.nil _ _ _) _ len _ rfl H.out.2.1 H.out.2.2.1 H.out.2.2.2.1 H.out.2.2.2.2 (by omega) ?_
  intro v6 w6 h6 o6 k6 p6; rw [Nat.zero_add, List.nil_append] at h6; obtain ⟨s6, q6, rfl, -, -⟩ := h6.form; have H6 := H_ (A_ h6 (A_ k6 p6))
  clear h6 o6 k6 p6)
 have hb6 : Below w.heap.size w w6 := H6.out.2.1.below (Nat.le_refl _) fun g hg he => by
  have h7 : (Value.slice none 0 0).ownBlock = some g := he; cases h7
 have hf6 : ∀ g, (Value.slice s6 len q6).ownBlock = some g -> w.heap.size <= g := fun g hg => by
  rcases H6.out.2.2 with h7 | h7
  . have h8 : (Value.slice s6 len q6).ownBlock = none := h7; rw [h8] at hg; cases hg
  . have h8 : (Value.slice s6 len q6).ownBlock = some w.heap.size := h7; rw [h8] at hg; cases hg; exact Nat.le_refl _
 have hr6 := H6.out.1; rw [HLN.out] at hr6; have HI := H_ (show CopyP w w6 (.slice s6 len q6) L L 0 from ⟨⟨by rw [HLN.out]; exact hr6, fun p hp => (H.out.1.o p hp).below hb6, H.out.1.m, H.out.1.l⟩, hf6, hb6, rfl, fun _ _ h => absurd h (Nat.not_lt_zero _)⟩); clear H6 hb6 hf6 hr6
 go_loopg [3] len (fun x i wr => ∃ k : Nat, k <= len /\ x = len - k /\ i = .int .i64 k /\ Hid (∃ L', CopyP w wr (.slice s6 len q6) L L' k))
 case atStart => exact ⟨0, by omega, by omega, rfl, L, HI.out⟩
 case round =>
  obtain ⟨k, hk, rfl, rfl, hK⟩ := hrel; obtain ⟨L', hL'⟩ := hK.out; have hll : L'.length = len := by have := congrArg List.length hL'.e; have := HLN.out; simp only [List.length_map] at *; omega
  have HK := H_ (A_ hL' hll); clear hK hL' hll
  by_cases hkl : k < len
  . have h1 : k < L'.length := by have := HK.out.2; omega
    obtain ⟨g, off, e1, hg, -, c0, c1, c2, c3⟩ := PkR.at (c := q6) (n := len) HK.out.1.own.pk k h1
    obtain ⟨rfl, rfl⟩ : ∃ h : s6 = some ⟨g, 0, none⟩, off = 0 := by
     obtain ⟨_, ⟨h7, _⟩ | ⟨g', cap, cur, hv, _⟩⟩ := HK.out.1.own.r
     . have h8 := (Value.slice.inj h7).1; rw [e1] at h8; cases h8
     . have h8 := (Value.slice.inj hv).1; rw [e1] at h8; cases h8; exact ⟨e1, rfl⟩
    rw [Nat.zero_add] at c2; have ho := HK.out.1.own.o _ (List.getElem_mem h1); have hm1 := HK.out.1.own.m _ (List.getElem_mem h1); have HS := H_ (fun v => pkL_set L' k h1 v); have HP := H_ ho; have fz0 := fun j => BRow.fz (g := g) (n := len) (c := q6) (by have h7 := HK.out.1.own.r; rw [HK.out.2] at h7; exact h7) j; have hfz := fz0 (k * 4 + 2); obtain ⟨s1, q1, e2, -, -⟩ := ho.form; have HE := H_ e2; rw [e2] at c2; have d2 : wr.cell? ⟨g, k * 4 + 2, none⟩ = some (.slice s1 L'[k].1.o.length q1) := c2; clear c0 c1 c2 c3 e1 e2 fz0 ho; generalize hol : L'[k].1.o.length = ol at *; have HOL := H_ hol; clear hol; go_wp2_with fail; have hp := HP.out; rw [HE.out] at hp; refine (copyO_any _ ol _ wr hp.rd hp.hnil hp.len (oV_one _) (by omega)).mono ?_; rintro e w3 ⟨v3, rfl, h3⟩; obtain ⟨s3, q3, rfl, -, -⟩ := h3.r.form; have d3 : w3.cell? ⟨g, k * 4 + 2, none⟩ = _ := (h3.b.cell (p := ⟨g, k * 4 + 2, none⟩) hg).trans d2
    have hfz3 : w3.frozen? ⟨g, k * 4 + 2, none⟩ = false := by
     have h7 := HK.out.1.own.r.below h3.b; rw [HK.out.2] at h7; exact h7.fz (k * 4 + 2)
    have H3 := H_ h3; clear h3 hp d2 hfz; go_wp2_with fail
    go_roundg (len - (k + 1))
    case measure => omega
    case rel =>
     have hk0 := (Keep.refl (fun q => q = g) w3).setCell ⟨g, k * 4 + 2, none⟩ (Or.inr rfl) (.slice s3 ol q3); have hown := HK.out.1.own.below H3.out.b; have hlt := HK.out.1.own.r.lt; have hgw : w.heap.size <= g := HK.out.1.f g rfl; refine ⟨k + 1, by omega, rfl, by go_num, L'.set k (L'[k].1, .slice s3 ol q3), ⟨?_, ?_, ?_, ?_⟩, HK.out.1.f, ?_, ?_, ?_⟩
     . have h8 := hown.r; rw [HK.out.2] at h8; have h7 := h8.set (k * 4 + 2) (.slice s3 ol q3) (by rw [h8.len]; omega); rw [HS.out] at h7; rw [List.length_set, HK.out.2]; exact h7
     . intro p hp
       rcases List.mem_or_eq_of_mem_set hp with h7 | rfl
       . exact (hown.o p h7).keep hk0 fun q hq he => by
          subst he; exact row_ne hown.r (hown.o p h7) pk_opt_ne q rfl hq
       . show BRow 91 2 _ (.slice s3 ol q3) L'[k].1.o.length (oV L'[k].1.o)
         rw [HOL.out]
         exact H3.out.r.keep hk0 fun q hq he => by
          subst he; exact row_ne hown.r H3.out.r pk_opt_ne q rfl hq
     . intro p hp
       rcases List.mem_or_eq_of_mem_set hp with h7 | rfl
       . exact hown.m p h7
       . exact hown.m L'[k] (List.getElem_mem h1)
     . rw [List.length_set]; exact hown.l
     . exact (HK.out.1.b.trans (H3.out.b.mono HK.out.1.b.size)).trans (hk0.below (Nat.le_trans HK.out.1.b.size H3.out.b.size) fun q hq he => by omega)
     . rw [List.map_set, <- HK.out.1.e]; have h8 : L'[k].1 = (L'.map Prod.fst)[k]'(by simpa using h1) := by simp
       rw [h8]; exact List.set_getElem_self _
     . intro j hj hjk q hq
       by_cases hjk2 : j = k
       . subst hjk2; rw [List.getElem_set_self] at hq; have := H3.out.f q hq; have := HK.out.1.b.size; omega
       . rw [List.getElem_set_ne (Ne.symm hjk2)] at hq; exact HK.out.1.new j (by simpa using hj) (by omega) q hq
  . go_wp2_with fail; go_ret; obtain rfl : len = k := by omega
    exact ⟨_, L', rfl, HK.out.1⟩
theorem app4 {α : Type} (A : List α) (a b c d : α) : (((A ++ [a]) ++ [b]) ++ [c]) ++ [d] = A ++ [a, b, c, d] := by simp
theorem pks_ne : (96 : TypeId) ≠ 93 := by decide
set_option maxRecDepth 100000 in
theorem putP_any (v : Value) (n : Nat) (X : Nat -> Value) (m : Nat -> Nat) (cs : Nat -> List Value) (bb : Nat) (w : World) (h : XV 93 96 4 w v n X m cs) (c1 : w.cell? ⟨bb, 10, none⟩ = some v) (hbb : bb < w.heap.size) (hv : v.ownBlock ≠ some bb) (hne : ∀ i, i < n -> (X i).ownBlock ≠ some bb)
 (hn : n <= 250) (hm : ∀ i, i < n -> m i <= 100000) :
 Calls Tryz.prog 86 #[.pointer (some ⟨bb, 0, none⟩)] w fun e w' => (∃ r, e = .returned r) /\ PutI 93 96 4 mkP w w' v n X m cs n := by
 obtain ⟨s1, k1, e1, hc1, hm1⟩ := h.r.form; subst e1; have H := H_ (A_ h (A_ c1 (A_ hbb (A_ hne hm)))); clear h hbb hne hm; go_enter Tryz.func86, Tryz.ntmps86; go_wp2_with fail
 go_loopg [2] n (fun x i wr => ∃ k : Nat, k <= n /\ x = n - k /\ i = .int .i64 k /\ Hid (PutI 93 96 4 mkP w wr (.slice s1 n k1) n X m cs k))
 case atStart => exact ⟨0, by omega, by omega, rfl, ⟨H.out.1.cong (fun i _ => by unfold mixC; rw [if_neg (by omega)]), Keep.refl _ _⟩⟩
 case round =>
  obtain ⟨k, hk, rfl, rfl, hK⟩ := hrel; have HK := H_ hK.out; clear hK; have d1 : wr.cell? ⟨bb, 10, none⟩ = _ := (HK.out.kp.cell (p := ⟨bb, 10, none⟩) H.out.2.2.1 (fun ⟨j, hj, he⟩ => H.out.2.2.2.1 j hj he)).trans c1
  by_cases hkn : k < n
  . obtain ⟨g, rfl, hg, c0⟩ := HK.out.x.r.rd.at k (by simpa using hkn); simp only [List.getElem_map, List.getElem_range] at c0; have hx := HK.out.x.e k hkn; have hmk := H.out.2.2.2.2 k hkn; have hgk : (X k).ownBlock ≠ some g := fun he => HK.out.x.rowNe pks_ne k hkn g rfl he; have hbk := H.out.2.2.2.1 k hkn; have hgb : g ≠ bb := fun he => hv (by rw [he]; rfl); have HX := H_ hx; obtain ⟨sx, cx, ex, hcx, hcm⟩ := hx.form; clear hx; have HEX := H_ ex; rw [ex] at c0; generalize hmkk : m k = mk at *; have HMK := H_ hmkk; clear hmkk ex
    go_wp2_with (
     go_at_call 199; refine (markP_any k 0 mk (by omega) (by omega) (by omega) _).mono ?_; rintro e w2 ⟨v2, rfl, h2⟩; obtain ⟨s2, k2, rfl, hc2, hm2⟩ := h2.r.form; have H2 := H_ h2
     clear h2)
    have HXR := H_ (A_ d1 (A_ c0 (A_ (Nat.lt_of_lt_of_le H.out.2.2.1 HK.out.kp.size) hg))); have hgl : g < w2.heap.size := Nat.lt_of_lt_of_le hg H2.out.b.size; have hbl : bb < w2.heap.size := Nat.lt_of_lt_of_le HXR.out.2.2.1 H2.out.b.size; clear d1 c0
    go_loopg [4] mk (fun x jj wi => ∃ j : Nat, j <= mk /\ x = mk - j /\ jj = .int .i64 j /\ Hid (PutJ 93 4 mkP w2 wi (X k) mk (cs k) k j))
    case atStart => exact ⟨0, by omega, by omega, rfl, ⟨by
     have h := HX.out.below H2.out.b; unfold mixC at h; rw [if_neg (Nat.lt_irrefl k)] at h
     exact h, Keep.refl _ _⟩⟩
    case round =>
     obtain ⟨j, hj, rfl, rfl, hJ⟩ := hrel; have HJ := H_ hJ.out; clear hJ
     by_cases hjm : j < mk
     . have hrow := HJ.out.row; have hd1 : wr.cell? ⟨bb, 10, none⟩ = _ := (HJ.out.kp.cell (p := ⟨bb, 10, none⟩) hbl hbk).trans ((H2.out.b.cell (p := ⟨bb, 10, none⟩) HXR.out.2.2.1).trans HXR.out.1); have hd2 : wr.cell? ⟨g, k, none⟩ = _ := (HJ.out.kp.cell (p := ⟨g, k, none⟩) hgl hgk).trans ((H2.out.b.cell (p := ⟨g, k, none⟩) HXR.out.2.2.2).trans HXR.out.2.1); have hcl : (cs k).length = mk * 4 := by have := HX.out.len; unfold mixC at this; rw [if_neg (Nat.lt_irrefl k)] at this; omega
       have hmr := H2.out.r.rd.keep HJ.out.kp (fun q hq he => by have := H2.out.f q hq; have := HX.out.lt q he; omega)
       have hmu0 : (marksC mkP k 0 mk)[j * 4]? = some (.int .i64 (-1 - (k : Int))) := by
        have := marksC_get mkP mkP_len k 0 mk j 0 hjm (by decide); rw [Nat.add_zero, Nat.zero_add] at this; exact this
       have hmu1 : (marksC mkP k 0 mk)[j * 4 + 1]? = some (.int .i64 (j : Int)) := by
        have := marksC_get mkP mkP_len k 0 mk j 1 hjm (by decide); rw [Nat.zero_add] at this; exact this
       have hmu2 : (marksC mkP k 0 mk)[j * 4 + 2]? = some (.slice none 0 0) := by
        have := marksC_get mkP mkP_len k 0 mk j 2 hjm (by decide); rw [Nat.zero_add] at this; exact this
       have hmu3 : (marksC mkP k 0 mk)[j * 4 + 3]? = some (.string ⟨#[]⟩) := by
        have := marksC_get mkP mkP_len k 0 mk j 3 hjm (by decide); rw [Nat.zero_add] at this; exact this
       obtain ⟨g2, rfl, hg2, m0⟩ := hmr.get hmu0; obtain ⟨_, e21, -, m1⟩ := hmr.get hmu1; cases e21
       obtain ⟨_, e22, -, m2⟩ := hmr.get hmu2; cases e22
       obtain ⟨_, e23, -, m3⟩ := hmr.get hmu3; cases e23
       rw [HEX.out] at hrow; obtain ⟨gx, rfl, hgx, n0⟩ := hrow.rd.at (j * 4) (by rw [List.length_append, marksC_len mkP mkP_len, List.length_drop]; omega); obtain ⟨_, ex1, -, n1⟩ := hrow.rd.at (j * 4 + 1) (by rw [List.length_append, marksC_len mkP mkP_len, List.length_drop]; omega); cases ex1
       obtain ⟨_, ex2, -, n2⟩ := hrow.rd.at (j * 4 + 2) (by rw [List.length_append, marksC_len mkP mkP_len, List.length_drop]; omega); cases ex2
       obtain ⟨_, ex3, -, n3⟩ := hrow.rd.at (j * 4 + 3) (by rw [List.length_append, marksC_len mkP mkP_len, List.length_drop]; omega); cases ex3
       have hfz0 := hrow.fz (j * 4); have hfz1 := hrow.fz (j * 4 + 1); have hfz2 := hrow.fz (j * 4 + 2); have hfz3 := hrow.fz (j * 4 + 3); have HROW := H_ (A_ hrow (A_ HJ.out.kp hcl)); have HKX := H_ (show (X k).ownBlock = some gx by rw [HEX.out]; rfl); obtain ⟨old0, o0⟩ : ∃ old, wr.cell? ⟨gx, j * 4, none⟩ = some old := ⟨_, n0⟩; obtain ⟨old1, o1⟩ : ∃ old, wr.cell? ⟨gx, j * 4 + 1, none⟩ = some old := ⟨_, n1⟩; obtain ⟨old2, o2⟩ : ∃ old, wr.cell? ⟨gx, j * 4 + 2, none⟩ = some old := ⟨_, n2⟩; obtain ⟨old3, o3⟩ : ∃ old, wr.cell? ⟨gx, j * 4 + 3, none⟩ = some old := ⟨_, n3⟩; have HSv : (fun Y : World => Y.cell? ⟨bb, 10, none⟩ = some (.slice (some ⟨g, 0, none⟩) n k1) /\ Y.cell? ⟨g, k, none⟩ = some (.slice (some ⟨gx, 0, none⟩) mk cx) /\ Y.cell? ⟨g2, j * 4, none⟩ = some (.int .i64 (-1 - (k : Int))) /\ Y.cell? ⟨g2, j * 4 + 1, none⟩ = some (.int .i64 (j : Int)) /\ Y.cell? ⟨g2, j * 4 + 2, none⟩ = some (.slice none 0 0) /\ Y.cell? ⟨g2, j * 4 + 3, none⟩ = some (.string ⟨#[]⟩)) wr.drew := ⟨hd1, hd2, m0, m1, m2, m3⟩; clear hrow hmr hmu0 hmu1 hmu2 hmu3 n0 n1 n2 n3 hcl; go_wp2_with fail; refine wp_region_H (rgH 0 13) (fun Y : World => Y.cell? ⟨bb, 10, none⟩ = some (.slice (some ⟨g, 0, none⟩) n k1) /\ Y.cell? ⟨g, k, none⟩ = some (.slice (some ⟨gx, 0, none⟩) mk cx) /\ Y.cell? ⟨g2, j * 4, none⟩ = some (.int .i64 (-1 - (k : Int))) /\ Y.cell? ⟨g2, j * 4 + 1, none⟩ = some (.int .i64 (j : Int)) /\ Y.cell? ⟨g2, j * 4 + 2, none⟩ = some (.slice none 0 0) /\ Y.cell? ⟨g2, j * 4 + 3, none⟩ = some (.string ⟨#[]⟩)) (by kernel_rfl) ?_; refine hatH 0 rfl (by rintro W ⟨h0, h1, h2, h3, h4, h5⟩; go_simp; try rfl) HSv ?_; simp only [aZ, aC, aD]; refine hatH 1 rfl (by rintro W ⟨h0, h1, h2, h3, h4, h5⟩; go_simp; try rfl) HSv ?_; simp only [aZ, aC, aD]; refine hatH 2 rfl (by rintro W ⟨h0, h1, h2, h3, h4, h5⟩; go_simp; try rfl) HSv ?_; simp only [aZ, aC, aD]; refine hatH 3 rfl (by rintro W ⟨h0, h1, h2, h3, h4, h5⟩; go_simp; try rfl) HSv ?_; simp only [aZ, aC, aD]; refine hatH 4 rfl (by rintro W ⟨h0, h1, h2, h3, h4, h5⟩; go_simp; try rfl) HSv ?_; simp only [aZ, aC, aD]; refine hatH 5 rfl (by rintro W ⟨h0, h1, h2, h3, h4, h5⟩; go_simp; try rfl) HSv ?_; simp only [aZ, aC, aD]; refine hatH 6 rfl (by rintro W ⟨h0, h1, h2, h3, h4, h5⟩; go_simp; try rfl) HSv ?_; simp only [aZ, aC, aD]; refine hatH 7 rfl (by rintro W ⟨h0, h1, h2, h3, h4, h5⟩; go_simp; try rfl) HSv ?_; simp only [aZ, aC, aD]; refine hatH 8 rfl (by rintro W ⟨h0, h1, h2, h3, h4, h5⟩; go_simp; try rfl) HSv ?_; simp only [aZ, aC, aD]; refine hatH 9 rfl (by rintro W ⟨h0, h1, h2, h3, h4, h5⟩; go_simp; try rfl) HSv ?_; simp only [aZ, aC, aD]; refine hatH 10 rfl (by rintro W ⟨h0, h1, h2, h3, h4, h5⟩; go_simp; try rfl) HSv ?_; simp only [aZ, aC, aD]; refine hatH 11 rfl (by rintro W ⟨h0, h1, h2, h3, h4, h5⟩; go_simp; try rfl) HSv ?_; simp only [aZ, aC, aD]; refine hatH 12 rfl (by rintro W ⟨h0, h1, h2, h3, h4, h5⟩; go_simp; try rfl) HSv ?_; simp only [aZ, aC, aD]; refine hend 13 ?_; simp only [aF, aG]; go_wp2_with fail
       go_roundg (mk - (j + 1))
       case measure => omega
       case rel =>
        refine ⟨j + 1, by omega, rfl, by go_num, ?_, ?_⟩
        . have hcl := HROW.out.2.2; have hb := (((((HROW.out.1.keep (Keep.refl (fun _ => False) wr).drew (fun _ _ h => h))).set (j * 4) (.int .i64 (-1 - (k : Int))) (by rw [List.length_append, marksC_len mkP mkP_len, List.length_drop]; omega)).set (j * 4 + 1) (.int .i64 (j : Int)) (by simp only [List.length_set]; rw [List.length_append, marksC_len mkP mkP_len, List.length_drop]; omega)).set (j * 4 + 2) (.slice none 0 0) (by simp only [List.length_set]; rw [List.length_append, marksC_len mkP mkP_len, List.length_drop]; omega)).set (j * 4 + 3) (.string ⟨#[]⟩) (by simp only [List.length_set]; rw [List.length_append, marksC_len mkP mkP_len, List.length_drop]; omega); rw [set_mark (by rw [marksC_len mkP mkP_len]) (by omega), set_mark (by rw [List.length_append, marksC_len mkP mkP_len]; rfl) (by omega), set_mark (by rw [List.length_append, List.length_append, marksC_len mkP mkP_len]; rfl) (by omega), set_mark (by rw [List.length_append, List.length_append, List.length_append, marksC_len mkP mkP_len]; rfl) (by omega)] at hb; rw [marksC_snoc, HEX.out, Nat.add_mul]; simp only [mkP, Nat.zero_add]; rw [app4] at hb; exact hb
        . exact (((((HROW.out.2.1.drew).setCell ⟨gx, j * 4, none⟩ (Or.inr HKX.out) _).setCell ⟨gx, j * 4 + 1, none⟩ (Or.inr HKX.out) _).setCell ⟨gx, j * 4 + 2, none⟩ (Or.inr HKX.out) _).setCell ⟨gx, j * 4 + 3, none⟩ (Or.inr HKX.out) _)
     . obtain rfl : mk = j := by omega
       go_wp2_with fail
       go_roundg (n - (k + 1))
       case measure => omega
       case rel =>
        refine ⟨k + 1, by omega, rfl, by go_num, ?_, ?_⟩
        . have hx := HK.out.x.below H2.out.b; have hj := HJ.out.row; rw [List.drop_of_length_le (by have := HX.out.len; unfold mixC at this; rw [if_neg (Nat.lt_irrefl k)] at this; omega), List.append_nil, <- HMK.out] at hj; exact (hx.turn pks_ne hkn hj HJ.out.kp).cong (fun i _ => mixC_step mkP m cs k i)
        . exact (HK.out.kp.trans (Keep.of_below _ H2.out.b)).transM HJ.out.kp (fun _ _ h => h) (fun i _ he => ⟨k, hkn, he⟩)
  . go_wp2_with fail
    go_end0
    obtain rfl : n = k := by omega
    exact ⟨⟨_, rfl⟩, HK.out⟩
set_option maxRecDepth 100000 in
theorem growP_any (v : Value) (n : Nat) (X : Nat -> Value) (m : Nat -> Nat) (bb : Nat) (w : World) (h : XV 93 96 4 w v n X m (fun i => marksC mkP i 0 (m i))) (c1 : w.cell? ⟨bb, 10, none⟩ = some v) (hbb : bb < w.heap.size) (hne : ∀ i, i < n -> (X i).ownBlock ≠ some bb)
 (hn : n <= 250) (hm : ∀ i, i < n -> m i <= 100000) :
 Calls Tryz.prog 109 #[.pointer (some ⟨bb, 0, none⟩)] w fun e w' => ∃ out G, e = .returned out /\ GrowI 93 96 4 mkP w w' out n X m G n := by
 obtain ⟨s1, k1, e1, hc1, hm1⟩ := h.r.form; subst e1; have H := H_ (A_ h (A_ c1 (A_ hbb (A_ hne hm)))); clear h hbb hne hm; go_enter Tryz.func109, Tryz.ntmps109; go_wp2_with fail
 go_loopg [3, 4] n (fun x out i wr => ∃ (k : Nat) (G : Nat -> Value), k <= n /\ x = n - k /\ i = .int .i64 k /\ Hid (GrowI 93 96 4 mkP w wr out n X m G k))
 case atStart => exact ⟨0, fun _ => nilS, by omega, by omega, rfl, GrowI.start H.out.1⟩
 case round =>
  obtain ⟨k, G, hk, rfl, rfl, hK⟩ := hrel; have HK := H_ hK.out; clear hK; have d1 : wr.cell? ⟨bb, 10, none⟩ = _ := (HK.out.kp.cell (p := ⟨bb, 10, none⟩) H.out.2.2.1 (fun ⟨j, hj, he⟩ => H.out.2.2.2.1 j hj he)).trans c1; obtain ⟨so, co, eo, -, -⟩ := HK.out.o.form; subst eo
  by_cases hkn : k < n
  . have hxl : ∀ g, (X k).ownBlock = some g -> g < w.heap.size := fun g hg => ((H.out.1.e k hkn).blk hg).1; obtain ⟨g, rfl, hg, c0⟩ := H.out.1.r.rd.at k (by simpa using hkn); simp only [List.getElem_map, List.getElem_range] at c0; have d0 : wr.cell? ⟨g, k, none⟩ = _ := (HK.out.kp.cell (p := ⟨g, k, none⟩) hg (fun ⟨j, hj, he⟩ => H.out.1.rowNe pks_ne j hj g rfl he)).trans c0; have hmk := H.out.2.2.2.2 k hkn; have hy := HK.out.y k (Nat.le_refl _) hkn; have HST := H_ (GrowJ.start hy); have HXL := H_ (fun g hg => Nat.lt_of_lt_of_le (hxl g hg) HK.out.kp.size); have HO := H_ (fun (w6 w7 : World) (k6 : Keep (fun g => (X k).ownBlock = some g) wr w6) (b7 : Below w6.heap.size w6 w7) => (HK.out.o.keep k6 (fun q hq he => by have := HK.out.ob q hq; have := hxl q he; omega)).below b7); obtain ⟨sx, cx, ex, hcx, hcm⟩ := hy.form; have HEX := H_ ex; rw [ex] at d0; generalize hmkk : m k = mk at *; have HMK := H_ hmkk; clear hmkk ex hy c0 hxl; go_wp2_with fail
    go_loopg [5, 6] (12 : Nat) (fun x l nn wi => ∃ c : Nat, c <= 12 /\ x = 12 - c /\ nn = .int .i64 c /\ Hid (GrowJ 93 4 mkP wr wi (X k) l mk k c))
    case atStart => exact ⟨0, by omega, by omega, rfl, by rw [HEX.out] at HST; rw [HEX.out]; exact HST.out⟩
    case round =>
     obtain ⟨c, hc, rfl, rfl, hJ⟩ := hrel; have HJ := H_ hJ.out; clear hJ; obtain ⟨sl, cl, el, hcl, hclm⟩ := HJ.out.lr.form; subst el
     by_cases hc12 : c < 12
     . go_wp2_with (first
        | (
         go_at_call 199; refine (markP_any k (mk + c) 1 (by omega) (by omega) (by omega) _).mono ?_; rintro e w2 ⟨v2, rfl, h2⟩; have H2 := H_ h2
         clear h2)
        | (
         at_builtin; refine wpl_append_row pk_row rfl _ _ rfl _ (mk + c) _ rfl (HJ.out.lr.below H2.out.b) _ 1 _ rfl H2.out.r.rd H2.out.r.hnil (marksC_len mkP mkP_len _ _ _) (marksC_one mkP mkP_one _ _ _) (by omega) ?_
         intro v6 w6 h6 o6 k6 p6; have H6 := H_ (HJ.out.step H2.out.b HXL.out h6 o6 k6 p6)
         clear h6 o6 k6 p6))
       go_roundg (12 - (c + 1))
       case measure => omega
       case rel => exact ⟨c + 1, by omega, rfl, by go_num, H6.out⟩
     . obtain rfl : c = 12 := by omega
       go_wp2_with (first
        | (
         go_at_call 199; refine (markP_any k (mk + 12) 60 (by omega) (by omega) (by omega) _).mono ?_; rintro e w2 ⟨v2, rfl, h2⟩; have H2 := H_ h2
         clear h2)
        | (
         at_builtin; refine wpl_append_row pk_row rfl _ _ rfl _ (mk + 12) _ rfl (HJ.out.lr.below H2.out.b) _ 60 _ rfl H2.out.r.rd H2.out.r.hnil (marksC_len mkP mkP_len _ _ _) (marksC_one mkP mkP_one _ _ _) (by omega) ?_
         intro v6 w6 h6 o6 k6 p6; obtain ⟨s6, q6, rfl, -, -⟩ := h6.form; have H6 := H_ (HJ.out.step H2.out.b HXL.out h6 o6 k6 p6)
         clear h6 o6 k6 p6)
        | (
         at_builtin; refine wpl_append_rec pks_row rfl _ _ rfl _ k _ rfl (HO.out _ _ H6.out.kp (b1 _ _)) _ _ [.slice s6 (mk + 12 + 60) q6] rfl (cell_of_at _ _ _ rfl) rfl (fun u hu => by rw [List.mem_singleton.1 hu]; rfl) (by omega) ?_
         intro g8 c8 w8 h8 k8 o8; have H8 := H_ (A_ h8 (A_ k8 o8))
         clear h8 k8 o8))
       go_roundg (n - (k + 1))
       case measure => omega
       case rel =>
        refine ⟨k + 1, upN G k (.slice s6 (mk + 12 + 60) q6), by omega, rfl, by go_num, ?_⟩; have e := HMK.out; subst e; exact GrowI.step H.out.1 pks_ne HK.out hkn H6.out (b1 _ _) H8.out.1 H8.out.2.1 (H8.out.2.2.imp (fun h => h.symm) (fun h => by rw [h]; rfl))
  . go_wp2_with fail; go_ret; obtain rfl : n = k := by omega
    exact ⟨_, G, rfl, HK.out⟩
theorem rowR_rec {k : Nat} {w : World} {v : Value} {n : Nat} {xs : List (List Value)} (h : RowR w v n xs.flatten) (hn : n = xs.length) (h0 : ∀ x ∈ xs, x.length = k) (hk : 0 < k) : Rec k w (fun _ => True) v xs := by
 subst hn; obtain ⟨sa, c, rfl, hc, hm, ⟨h1, _⟩ | ⟨g, rfl, hlt, hr⟩⟩ := h
 . exact ⟨h0, sa, c, rfl, hc, hm, .inl (List.eq_nil_of_length_eq_zero h1)⟩
 . refine ⟨h0, _, c, rfl, hc, hm, .inr ⟨g, 0, rfl, hlt, trivial, fun i hi j u hu => ?_⟩⟩; have hj : j < k := by rw [<- h0 _ (List.getElem_mem hi)]; exact (List.getElem?_eq_some_iff.1 hu).1
   rw [Nat.zero_add]; exact hr _ u (by rw [flatten_at xs h0 i hi j hj]; exact hu)
def mlistP (i f n : Nat) : List (Pk × Value) := (List.range n).map fun (j : Nat) => (⟨-1 - (i : Int), ((f + j : Nat) : Int), [], ⟨#[]⟩⟩, .slice none 0 0)
theorem mlistP_len (i f n : Nat) : (mlistP i f n).length = n := by simp [mlistP]
theorem mlistP_V (i f n : Nat) : marksC mkP i f n = (pkL (mlistP i f n)).flatten := by
 induction n with
 | zero => rfl
 | succ n ih => rw [marksC_snoc, ih]; simp [mlistP, List.range_succ, pkL, mkP, pkCells]
theorem rowR_pk {w : World} {v : Value} {i m : Nat} (h : RowR w v m (marksC mkP i 0 m)) (hm : m <= maxLen) : PkR w (fun _ => True) v (mlistP i 0 m) where
 r := by
  rw [mlistP_V] at h; exact rowR_rec h (by rw [pkL_len, mlistP_len]) (pkL_k _) (by decide)
 o := by
  intro p hp; simp only [mlistP, List.mem_map] at hp; obtain ⟨j, _, rfl⟩ := hp; exact Rec.nil _ _ _
 m := by
  intro p hp; simp only [mlistP, List.mem_map] at hp; obtain ⟨j, _, rfl⟩ := hp; exact Nat.zero_le _
set_option maxRecDepth 100000 in
theorem markedP_any (l : Value) (n : Nat) (G : Nat -> Value) (m : Nat -> Nat) (w : World) (hl : RowR w l n ((List.range n).map G)) (hn : n <= 250) (hG : ∀ i, i < n -> RowR w (G i) (m i) (marksC mkP i 0 (m i)) /\ m i <= 200000) :
 Calls Tryz.prog 127 #[l] w fun e w' => e = .returned (.bool true) /\ Below w.heap.size w w' := by
 obtain ⟨sa, c, rfl, hc, hm⟩ := hl.form; have H := H_ (A_ hl hG); clear hl hG; go_enter Tryz.func127, Tryz.ntmps127; go_wp2_with fail
 go_loopg [3] n (fun x i wr => ∃ k : Nat, k <= n /\ x = n - k /\ i = .int .i64 k /\ Hid (Below w.heap.size w wr))
 case atStart => exact ⟨0, by omega, by omega, rfl, Below.refl _ _⟩
 case round =>
  obtain ⟨k, hk, rfl, rfl, hK⟩ := hrel; have HK := H_ hK.out; clear hK
  by_cases hkn : k < n
  . obtain ⟨g, rfl, hg, c0⟩ := H.out.1.at k (by simpa using hkn); simp only [List.getElem_map, List.getElem_range] at c0; obtain ⟨hr, hmk⟩ := H.out.2 k hkn; generalize hGk : G k = x at *; obtain ⟨sk, ck, rfl, hck, hcm⟩ := hr.form; have HS : Hid (∀ W, Below wr.heap.size wr W -> W.cell? ⟨g, k, none⟩ = some (.slice sk (m k) ck)) := H_ fun W hW => (hW.cell (p := ⟨g, k, none⟩) (Nat.lt_of_lt_of_le hg HK.out.size)).trans ((HK.out.cell (p := ⟨g, k, none⟩) hg).trans c0); have HR := H_ (hr.below HK.out); clear hr c0; generalize m k = mk at *; go_wp2_with fail; refine wp_region_H (rgH 0 13) (fun Y : World => Y.cell? ⟨g, k, none⟩ = some (.slice sk mk ck)) (by kernel_rfl) ?_; have HSv := HS.out wr.drew (Below.refl _ _).drew; refine hatH 0 rfl (by rintro W h0; go_simp; try rfl) HSv ?_; simp only [aZ, aC, aD]; refine hatH 1 rfl (by rintro W h0; go_simp; try rfl) HSv ?_; simp only [aZ, aC, aD]; refine hatH 2 rfl (by rintro W h0; go_simp; try rfl) HSv ?_; simp only [aZ, aC, aD]; refine hatH 3 rfl (by rintro W h0; go_simp; try rfl) HSv ?_; simp only [aZ, aC, aD]; refine hatH 4 rfl (by rintro W h0; go_simp; try rfl) HSv ?_; simp only [aZ, aC, aD]; refine hatH 5 rfl (by rintro W h0; go_simp; try rfl) HSv ?_; simp only [aZ, aC, aD]; refine hatH 6 rfl (by rintro W h0; go_simp; try rfl) HSv ?_; simp only [aZ, aC, aD]; refine hatH 7 rfl (by rintro W h0; go_simp; try rfl) HSv ?_; simp only [aZ, aC, aD]; refine hatH 8 rfl (by rintro W h0; go_simp; try rfl) HSv ?_; simp only [aZ, aC, aD]; refine hatH 9 rfl (by rintro W h0; go_simp; try rfl) HSv ?_; simp only [aZ, aC, aD]; refine hone 10 rfl fun K hK => ?_
    try go_simp
    go_at_call 199; refine (markP_any k 0 mk (by omega) (by omega) (by omega) _).mono ?_; rintro e W2 ⟨v2, rfl, h2⟩; have HB2 := H_ (show Below wr.heap.size wr W2 from Below.trans (Below.refl _ _).drew h2.b); have HSv := HS.out W2 HB2.out; have H2 := H_ h2.r; clear h2; refine hK _ _ (fun _ => HSv) ?_
    try simp only [aZ, aA, aE, aB, aC, aD]
    refine hone 11 rfl fun K hK => ?_
    try go_simp
    go_at_call 55; refine (sameK_true (mlistP k 0 mk) (mlistP k 0 mk) _ _ _ _ _ (rowR_pk (HR.out.below HB2.out) (by unfold maxLen; omega)) (rowR_pk H2.out.rd (by unfold maxLen; omega)) rfl (by rw [mlistP_len]; omega)).mono ?_; rintro e W3 ⟨rfl, hb3⟩; have HB3 := H_ (HB2.out.trans (hb3.mono HB2.out.size)); have HSv := HS.out W3 HB3.out; clear hb3; refine hK _ _ (fun _ => HSv) ?_
    try simp only [aZ, aA, aE, aB, aC, aD]
    refine hatH 12 rfl (by rintro W h0; go_simp; try rfl) HSv ?_; simp only [aZ, aC, aD]; refine hend 13 ?_; simp only [aF, aG]; go_wp2_with fail
    go_roundg (n - (k + 1))
    case measure => omega
    case rel => exact ⟨k + 1, by omega, rfl, by go_num, HK.out.trans (HB3.out.mono HK.out.size)⟩
  . go_wp2_with fail; go_ret; exact ⟨rfl, HK.out⟩
set_option maxRecDepth 100000 in
theorem stillP_any (D : KD) (bb : Nat) (w : World) (h : ShelfV 93 96 4 w D) (c1 : w.cell? ⟨bb, 10, none⟩ = some D.v1) (c2 : w.cell? ⟨bb, 11, none⟩ = some D.v2) (hbb : bb < w.heap.size)
 (he : ∀ i, i < D.n -> ∃ A B, PkR w (fun _ => True) (D.X i) A /\ PkR w (fun _ => True) (D.Y i) B /\ A.map Prod.fst = B.map Prod.fst /\ A.length <= 1000) :
 Calls Tryz.prog 73 #[.pointer (some ⟨bb, 0, none⟩)] w fun e w' => e = .returned (.bool true) /\ Below w.heap.size w w' := by
 obtain ⟨v1, v2, n, X, Y, m, cs, ds⟩ := D; simp only at c1 c2 he
 obtain ⟨s1, k1, e1, hc1, hm1⟩ := h.x.r.form; obtain ⟨s2, k2, e2, hc2, hm2⟩ := h.y.r.form; simp only at e1 e2 hc1 hc2
 subst e1 e2; have hn := h.hn; simp only at hn
 have H := H_ (A_ h (A_ c1 (A_ c2 (A_ hbb he)))); clear h hbb he; go_enter Tryz.func73, Tryz.ntmps73; go_wp2_with fail
 go_loopg [3] n (fun x i wr => ∃ k : Nat, k <= n /\ x = n - k /\ i = .int .i64 k /\ Hid (Below w.heap.size w wr))
 case atStart => exact ⟨0, by omega, by omega, rfl, Below.refl _ _⟩
 case round =>
  obtain ⟨k, hk, rfl, rfl, hK⟩ := hrel; have HK := H_ hK.out; clear hK; have d1 : wr.cell? ⟨bb, 10, none⟩ = _ := (HK.out.cell (p := ⟨bb, 10, none⟩) H.out.2.2.2.1).trans c1
  by_cases hkn : k < n
  . obtain ⟨g, rfl, hg, c0⟩ := H.out.1.x.r.rd.at k (by simpa using hkn); obtain ⟨g', rfl, hg', c0'⟩ := H.out.1.y.r.rd.at k (by simpa using hkn); simp only [List.getElem_map, List.getElem_range] at c0 c0'; obtain ⟨A, B, hA, hB, hAB, hAl⟩ := H.out.2.2.2.2 k hkn; have hxy : A.length = B.length := by have := congrArg List.length hAB; simpa using this
    obtain ⟨sx, cx, ex, -, -⟩ := hA.form; obtain ⟨sy, cy, ey, -, -⟩ := hB.form
    try simp only at hA hB ex ey
    rw [<- hxy] at ey; have HR := H_ (fun (W : World) (hW : Below wr.heap.size wr W) => sameK_true A B _ _ _ _ W ((hA.below HK.out).below hW) ((hB.below HK.out).below hW) hAB (by omega)); rw [ex] at c0 HR; rw [ey] at c0' HR; clear hA hB hAB ex ey hxy; generalize A.length = xl at *
    have HS : Hid (∀ W, Below wr.heap.size wr W -> W.cell? ⟨bb, 10, none⟩ = some (.slice (some ⟨g, 0, none⟩) n k1) /\ W.cell? ⟨bb, 11, none⟩ = some (.slice (some ⟨g', 0, none⟩) n k2) /\ W.cell? ⟨g, k, none⟩ = some (.slice sx xl cx) /\ W.cell? ⟨g', k, none⟩ = some (.slice sy xl cy)) :=
     H_ fun W hW =>
      have hb := HK.out.trans (hW.mono HK.out.size)
      ⟨(hb.cell (p := ⟨bb, 10, none⟩) H.out.2.2.2.1).trans c1, (hb.cell (p := ⟨bb, 11, none⟩) H.out.2.2.2.1).trans c2, (hb.cell (p := ⟨g, k, none⟩) hg).trans c0, (hb.cell (p := ⟨g', k, none⟩) hg').trans c0'⟩
    clear c0 c0'; go_wp2_with fail; refine wp_region_H (rgH 0 16) (fun Y : World => Y.cell? ⟨bb, 10, none⟩ = some (.slice (some ⟨g, 0, none⟩) n k1) /\ Y.cell? ⟨bb, 11, none⟩ = some (.slice (some ⟨g', 0, none⟩) n k2) /\ Y.cell? ⟨g, k, none⟩ = some (.slice sx xl cx) /\ Y.cell? ⟨g', k, none⟩ = some (.slice sy xl cy)) (by kernel_rfl) ?_; have HSv := HS.out wr.drew (Below.refl _ _).drew; refine hatH 0 rfl (by rintro W ⟨h0, h1, h2, h3⟩; go_simp; try rfl) HSv ?_; simp only [aZ, aC, aD]; refine hatH 1 rfl (by rintro W ⟨h0, h1, h2, h3⟩; go_simp; try rfl) HSv ?_; simp only [aZ, aC, aD]; refine hatH 2 rfl (by rintro W ⟨h0, h1, h2, h3⟩; go_simp; try rfl) HSv ?_; simp only [aZ, aC, aD]; refine hatH 3 rfl (by rintro W ⟨h0, h1, h2, h3⟩; go_simp; try rfl) HSv ?_; simp only [aZ, aC, aD]; refine hatH 4 rfl (by rintro W ⟨h0, h1, h2, h3⟩; go_simp; try rfl) HSv ?_; simp only [aZ, aC, aD]; refine hatH 5 rfl (by rintro W ⟨h0, h1, h2, h3⟩; go_simp; try rfl) HSv ?_; simp only [aZ, aC, aD]; refine hatH 6 rfl (by rintro W ⟨h0, h1, h2, h3⟩; go_simp; try rfl) HSv ?_; simp only [aZ, aC, aD]; refine hatH 7 rfl (by rintro W ⟨h0, h1, h2, h3⟩; go_simp; try rfl) HSv ?_; simp only [aZ, aC, aD]; refine hatH 8 rfl (by rintro W ⟨h0, h1, h2, h3⟩; go_simp; try rfl) HSv ?_; simp only [aZ, aC, aD]; refine hatH 9 rfl (by rintro W ⟨h0, h1, h2, h3⟩; go_simp; try rfl) HSv ?_; simp only [aZ, aC, aD]; refine hatH 10 rfl (by rintro W ⟨h0, h1, h2, h3⟩; go_simp; try rfl) HSv ?_; simp only [aZ, aC, aD]; refine hatH 11 rfl (by rintro W ⟨h0, h1, h2, h3⟩; go_simp; try rfl) HSv ?_; simp only [aZ, aC, aD]; refine hatH 12 rfl (by rintro W ⟨h0, h1, h2, h3⟩; go_simp; try rfl) HSv ?_; simp only [aZ, aC, aD]; refine hatH 13 rfl (by rintro W ⟨h0, h1, h2, h3⟩; go_simp; try rfl) HSv ?_; simp only [aZ, aC, aD]; refine hone 14 rfl fun K hK => ?_
    try go_simp
    go_at_call 55; refine (HR.out wr.drew (Below.refl _ _).drew).mono ?_; rintro e W3 ⟨rfl, hb3⟩; have HB3 := H_ (show Below wr.heap.size wr W3 from Below.trans (Below.refl _ _).drew hb3); have HSv := HS.out W3 HB3.out; clear hb3; refine hK _ _ (fun _ => HSv) ?_
    try simp only [aZ, aA, aE, aB, aC, aD]
    refine hatH 15 rfl (by rintro W ⟨h0, h1, h2, h3⟩; go_simp; try rfl) HSv ?_; simp only [aZ, aC, aD]; refine hend 16 ?_; simp only [aF, aG]; go_wp2_with fail
    go_roundg (n - (k + 1))
    case measure => omega
    case rel => exact ⟨k + 1, by omega, rfl, by go_num, HK.out.trans (HB3.out.mono HK.out.size)⟩
  . go_wp2_with fail; go_ret; exact ⟨rfl, HK.out⟩
theorem pks_opt_ne : (96 : TypeId) ≠ 91 := by decide
set_option maxRecDepth 100000 in
theorem addP_any (D : KD) (x : Value) (mx : Nat) (cx : List Value) (bb : Nat) (bcs : Array Value) (BT : TypeId) (w : World) (h : ShelfV 93 96 4 w D) (hx : BRow 93 4 w x mx cx) (hone : ∀ u ∈ cx, u.oneCell' = true) (hmx : mx <= 100000)
 (hxs : ∀ g, x.ownBlock = some g -> ¬ D.Has g) (hbk : w.heap[bb]? = some (.cells bcs BT (0, 0))) (hc1 : bcs[10]? = some D.v1) (hc2 : bcs[11]? = some D.v2) (hbn : ¬ D.Has bb) (hbx : x.ownBlock ≠ some bb) (hroom : D.n < 250) (L : List (Pk × Value)) (hL : OwnP w x L) (hmL : mx = L.length) (hcL : cx = (pkL L).flatten) (hBT : BT ≠ 91) :
 Calls Tryz.prog 175 #[.pointer (some ⟨bb, 0, none⟩), x] w fun e w' => (∃ r, e = .returned r) /\ ∃ v1 v2 y L', AddI 93 96 4 bb 10 11 bcs BT w w' D ⟨v1, v2, D.n + 1, upN D.X D.n x, upN D.Y D.n y, upN D.m D.n mx, upN D.cs D.n cx, upN D.ds D.n (pkL L').flatten⟩ x /\ L'.map Prod.fst = L.map Prod.fst /\ OwnP w' y L' /\ (∀ p ∈ L', ∀ g, p.2.ownBlock = some g -> w.heap.size <= g) := by
 obtain ⟨v1, v2, n, X, Y, m, cs, ds⟩ := D; simp only at hc1 hc2 hroom ⊢
 have hbb : bb < w.heap.size := (Array.getElem?_eq_some_iff.1 hbk).1; obtain ⟨s1, k1, e1, hcc1, hm1⟩ := h.x.r.form; obtain ⟨s2, k2, e2, hcc2, hm2⟩ := h.y.r.form; obtain ⟨sx, kx, e3, hcc3, hm3⟩ := hx.form; simp only at e1 e2 hcc1 hcc2
 subst e1 e2 e3; have c1 := cell_block hbk hc1; have hv1 : ∀ g, (Value.slice s1 n k1).ownBlock = some g -> g ≠ bb := fun g hg he => hbn (.inl (.inl (by rw [<- he]; exact hg))); have hv2 : ∀ g, (Value.slice s2 n k2).ownBlock = some g -> g ≠ bb := fun g hg he => hbn (.inr (.inl (by rw [<- he]; exact hg))); have H := H_ (A_ h (A_ hx (A_ hxs (A_ hbb (A_ hbn (A_ hone (A_ hbk (A_ hc1 (A_ hc2 hbx))))))))); have HV := H_ (A_ hv1 hv2)
 have HSEP := H_ (show ∀ p ∈ L, ∀ g, p.2.ownBlock = some g -> ¬ (g = bb \/ (Value.slice s1 n k1).ownBlock = some g \/ (Value.slice s2 n k2).ownBlock = some g) from fun p hp g hg he => by
  obtain ⟨_, cur, hcur⟩ := (hL.o p hp).blk hg
  rcases he with rfl | he | he
  . rw [hbk] at hcur; cases hcur; exact hBT rfl
  . exact row_ne h.x.r (hL.o p hp) pks_opt_ne g he hg
  . exact row_ne h.y.r (hL.o p hp) pks_opt_ne g he hg)
 have HL := H_ (A_ hL (A_ hmL (A_ hcL hBT))); clear hL hmL hcL hBT; clear h hx hxs hbb hbn hone hbk hc1 hc2 hbx hv1 hv2; go_enter Tryz.func175, Tryz.ntmps175
 go_wp2_with (
  at_builtin; refine wpl_append_rec pks_row rfl _ _ rfl _ n _ rfl (H.out.1.x.r.below (b1 _ _)) _ _ [.slice sx mx kx] rfl (cell_of_at _ _ _ rfl) rfl (fun u hu => by rw [List.mem_singleton.1 hu]; rfl) (by omega) ?_
  intro g3 c3 w3 h3 k3 o3; have hbb3 : bb < (w.alloc (.cells #[.slice sx mx kx] 96 (0, 0))).heap.size := Nat.lt_of_lt_of_le H.out.2.2.2.1 (b1 _ _).size; have hk3 : w3.heap[bb]? = some (.cells bcs BT (0, 0)) := (k3.block bb hbb3 (fun he => HV.out.1 bb he rfl)).trans (((b1 w _).block bb H.out.2.2.2.1).trans H.out.2.2.2.2.2.2.1); have d2 := cell_block hk3 H.out.2.2.2.2.2.2.2.1; have f3 := fz_block hk3 10; have H3 := H_ (A_ h3 (A_ k3 (A_ o3 hk3)))
  clear h3 k3 o3 hk3)
 have hs3 := H3.out.2.1.size; have hb0 := (b1 w (.cells #[.slice sx mx kx] 96 (0, 0)))
 have hA : Add1 93 96 4 ⟨.slice s1 n k1, .slice s2 n k2, n, X, Y, m, cs, ds⟩ w3 (.slice (some ⟨g3, 0, none⟩) (n + 1) c3) (.slice sx mx kx) mx cx :=
  add1 (H.out.1.below hb0) pks_ne (H.out.2.1.below hb0) H.out.2.2.1 H3.out.1 H3.out.2.1 (H3.out.2.2.1.imp (fun h => h.symm) (fun h => by rw [h]; rfl)) hmx hroom
 have hg3 : g3 ≠ bb := fun he => by
  rcases H3.out.2.2.1 with h | h
  . exact HV.out.1 _ h he
  . have := H.out.2.2.2.1; have := hb0.size; omega
 have hnb : ∀ g, XHas (.slice (some ⟨g3, 0, none⟩) (n + 1) c3) (n + 1) (upN X n (.slice sx mx kx)) g \/ XHas (.slice s2 n k2) n Y g -> ¬ g = bb := by
  intro g hg he; subst he
  rcases hg with hg | hg
  . rcases hg.up with h | h | h
    . cases h; exact hg3 rfl
    . exact H.out.2.2.2.2.2.2.2.2.2 h
    . exact H.out.2.2.2.2.1 (.inl (.inr h))
  . exact H.out.2.2.2.2.1 (.inr hg)
 have hk4 := (Keep.refl (fun g => g = bb) w3).setCell ⟨bb, 10, none⟩ (Or.inr rfl) (.slice (some ⟨g3, 0, none⟩) (n + 1) c3); have hA4 := hA.keep hk4 hnb; have hbk4 := cell_set H3.out.2.2.2 10 (.slice (some ⟨g3, 0, none⟩) (n + 1) c3); have hcc4 : (bcs.setIfInBounds 10 (.slice (some ⟨g3, 0, none⟩) (n + 1) c3))[11]? = some (.slice s2 n k2) := get_set H.out.2.2.2.2.2.2.2.2.1 (by decide); have d3 := cell_block hbk4 hcc4
 have hkk : Keep (fun g => g = bb \/ (Value.slice s1 n k1).ownBlock = some g \/ (Value.slice s2 n k2).ownBlock = some g) w (w3.setCell ⟨bb, 10, none⟩ (.slice (some ⟨g3, 0, none⟩) (n + 1) c3)) :=
  ((Keep.of_below _ hb0).transM H3.out.2.1 (fun _ _ h => h) (fun g _ h => .inr (.inl h))).transM hk4 (fun _ _ h => h) (fun g _ h => .inl h)
 have hsz4 : w.heap.size < (w3.setCell ⟨bb, 10, none⟩ (.slice (some ⟨g3, 0, none⟩) (n + 1) c3)).heap.size := Nat.lt_of_lt_of_le (by rw [balloc1]; omega) (Nat.le_trans hs3 hk4.size); have HA := H_ (A_ hA4 (A_ hbk4 (A_ hcc4 (A_ hkk (A_ hnb hsz4))))); clear hA hA4 hnb hk4 hb0 d2 f3 hbk4 hcc4 hkk hsz4 hs3; generalize w3.setCell ⟨bb, 10, none⟩ (.slice (some ⟨g3, 0, none⟩) (n + 1) c3) = w4 at *
 have HS : Hid (∀ W, Keep (fun g => (Value.slice s2 n k2).ownBlock = some g) w4 W -> W.heap[bb]? = some (.cells (bcs.setIfInBounds 10 (.slice (some ⟨g3, 0, none⟩) (n + 1) c3)) BT (0, 0))) := H_ fun W hW =>
  (hW.block bb (Array.getElem?_eq_some_iff.1 HA.out.2.1).1 (fun he => HV.out.2 bb he rfl)).trans HA.out.2.1
 have HSv : (fun Y : World => Y.cell? ⟨bb, 11, none⟩ = some (.slice s2 n k2)) w4.drew := d3; refine wp_region_H (rgH 0 9) (fun Y : World => Y.cell? ⟨bb, 11, none⟩ = some (.slice s2 n k2)) (by kernel_rfl) ?_; refine hatH 0 rfl (by rintro W h0; go_simp; try rfl) HSv ?_; simp only [aZ, aC, aD]; refine hatH 1 rfl (by rintro W h0; go_simp; try rfl) HSv ?_; simp only [aZ, aC, aD]; refine hatH 2 rfl (by rintro W h0; go_simp; try rfl) HSv ?_; simp only [aZ, aC, aD]; refine hatH 3 rfl (by rintro W h0; go_simp; try rfl) HSv ?_; simp only [aZ, aC, aD]; refine hatH 4 rfl (by rintro W h0; go_simp; try rfl) HSv ?_; simp only [aZ, aC, aD]; refine hatH 5 rfl (by rintro W h0; go_simp; try rfl) HSv ?_; simp only [aZ, aC, aD]; refine hone 6 rfl fun K hK => ?_
 try go_simp
 go_at_call 237
 have HOW : Hid (OwnP w4.drew (.slice sx mx kx) L) := H_ ⟨by
  have e1 := HL.out.2.1; have e2 := HL.out.2.2.1; rw [<- e1, <- e2]
  exact HA.out.1.xr.below (Below.refl _ _).drew, fun p hp => ((HL.out.1.o p hp).keep HA.out.2.2.2.1 (HSEP.out p hp)).below (Below.refl _ _).drew, HL.out.1.m, HL.out.1.l⟩
 refine (copyK_any L (.slice sx mx kx) w4.drew HOW.out).mono ?_; rintro e w5 ⟨y, L', rfl, h5⟩; have hb5 : Below w4.heap.size w4 w5 := Below.trans (Below.refl _ _).drew h5.b; have HSv : w5.cell? ⟨bb, 11, none⟩ = some (.slice s2 n k2) := cell_block (HS.out w5 (Keep.of_below _ hb5)) HA.out.2.2.1; have hll : L'.length = mx := by have h7 := congrArg List.length h5.e; have h8 := HL.out.2.1; simp only [List.length_map] at h7; omega
 have hr5 : BRow 93 4 w5 y mx (pkL L').flatten := by have h7 := h5.own.r; rw [hll] at h7; exact h7
 obtain ⟨sy, ky, rfl, -, -⟩ := hr5.form; have H5 := H_ (A_ hr5 (A_ hb5 h5.f)); have HOY := H_ (A_ h5.own (A_ h5.e (A_ hll h5.new))); clear hb5 h5 hr5 hll; refine hK _ _ (fun _ => HSv) ?_
 try simp only [aZ, aA, aE, aB, aC, aD]
 refine hone 7 rfl fun K hK => ?_
 try go_simp
 have hb6 := b1 w5 (.cells #[.slice sy mx ky] 96 (0, 0)); have HSv : (w5.alloc (.cells #[.slice sy mx ky] 96 (0, 0))).cell? ⟨bb, 11, none⟩ = some (.slice s2 n k2) := cell_block (HS.out _ ((Keep.of_below _ H5.out.2.1).trans (Keep.of_below _ hb6))) HA.out.2.2.1; refine hK _ _ (fun _ => HSv) ?_
 try simp only [aZ, aA, aE, aB, aC, aD]
 refine wpAnyH_1 8 rfl (by kernel_rfl) ?_; intro K hK; refine step_append_rec pks_row rfl _ _ rfl _ n _ rfl (HA.out.1.yv.r.below (Below.trans H5.out.2.1 (hb6.mono H5.out.2.1.size))) _ _ [.slice sy mx ky] rfl (cell_of_at _ _ _ rfl) rfl (fun u hu => by rw [List.mem_singleton.1 hu]; rfl) (by omega) ?_; intro g7 c7 w7 h7 k7 o7; have hbk7 := HS.out w7 (((Keep.of_below _ H5.out.2.1).trans (Keep.of_below _ hb6)).trans k7); have HSv : w7.cell? ⟨bb, 11, none⟩ = some (.slice s2 n k2) := cell_block hbk7 HA.out.2.2.1; have f7 := fz_block hbk7 11
 have hS7 : ShelfV 93 96 4 w7 ⟨(.slice (some ⟨g3, 0, none⟩) (n + 1) c3), (.slice (some ⟨g7, 0, none⟩) (n + 1) c7), n + 1, upN X n (.slice sx mx kx), upN Y n (.slice sy mx ky), upN m n mx, upN cs n cx, upN ds n (pkL L').flatten⟩ :=
  HA.out.1.add2 pks_ne H5.out.1 H5.out.2.1 H5.out.2.2 hb6 h7 k7 (o7.imp (fun h => h.symm) (fun h => by rw [h]; rfl))
 have hsz7 : (w5.alloc (.cells #[.slice sy mx ky] 96 (0, 0))).heap.size <= w7.heap.size := k7.size; have H7 := H_ (A_ hS7 (A_ hbk7 (A_ o7 (A_ hsz7 (HA.out.2.2.2.1.trans (((Keep.of_below _ H5.out.2.1).trans (Keep.of_below _ hb6)).transM k7 (fun _ _ h => h) (fun g _ h => .inr (.inr h)))))))); have HK57 := H_ (show Keep (fun g => (Value.slice s2 n k2).ownBlock = some g) w5 w7 from (Keep.of_below _ hb6).trans k7); clear h7 k7 o7 hbk7 hS7 hb6 hsz7; refine hK _ _ (fun _ => HSv) ?_
 try simp only [aZ, aA, aE, aB, aC, aD]
 refine hend 9 ?_; simp only [aF, aG]; go_wp2_with fail
 go_end0
 refine ⟨⟨_, rfl⟩, (.slice (some ⟨g3, 0, none⟩) (n + 1) c3), (.slice (some ⟨g7, 0, none⟩) (n + 1) c7), (.slice sy mx ky), L', ?_⟩; have hs5 := H5.out.2.1.size; have hs6 := balloc1 w5 (.cells #[.slice sy mx ky] 96 (0, 0)); have hs7 := H7.out.2.2.2.1; have hk8 := (Keep.refl (fun g => g = bb) w7).setCell ⟨bb, 11, none⟩ (Or.inr rfl) (.slice (some ⟨g7, 0, none⟩) (n + 1) c7)
 have hg7 : g7 ≠ bb := fun he => by
  rcases H7.out.2.2.1 with h | h
  . exact HV.out.2 _ h he
  . have := H.out.2.2.2.1; have := HA.out.2.2.2.2.2; omega
 have hhas : ∀ g, (⟨(.slice (some ⟨g3, 0, none⟩) (n + 1) c3), (.slice (some ⟨g7, 0, none⟩) (n + 1) c7), n + 1, upN X n (.slice sx mx kx), upN Y n (.slice sy mx ky), upN m n mx, upN cs n cx, upN ds n (pkL L').flatten⟩ : KD).Has g ->
  (⟨.slice s1 n k1, .slice s2 n k2, n, X, Y, m, cs, ds⟩ : KD).Has g \/ (Value.slice sx mx kx).ownBlock = some g \/ w.heap.size <= g := by
  rintro g (hg | hg)
  . rcases hg.up with h | h | h
    . cases h
      rcases H3.out.2.2.1 with h | h
      . exact .inl (.inl (.inl h))
      . exact .inr (.inr (by show w.heap.size <= g3; rw [balloc1] at h; omega))
    . exact .inr (.inl h)
    . exact .inl (.inl (.inr h))
  . rcases hg.up with h | h | h
    . cases h
      rcases H7.out.2.2.1 with h | h
      . exact .inl (.inr (.inl h))
      . exact .inr (.inr (by show w.heap.size <= g7; have := HA.out.2.2.2.2.2; omega))
    . exact .inr (.inr (by have h9 : w4.heap.size <= g := H5.out.2.2 g h; have := HA.out.2.2.2.2.2; omega))
    . exact .inl (.inr (.inr h))
 have hsf := H7.out.1.keep hk8 (fun g hg he => by
  subst he
  rcases hhas g hg with h | h | h
  . exact H.out.2.2.2.2.1 h
  . exact H.out.2.2.2.2.2.2.2.2.2 h
  . have := H.out.2.2.2.1; omega)
 refine ⟨⟨hsf, cell_set H7.out.2.1 11 _, H7.out.2.2.2.2.transM hk8 (fun _ _ h => h) (fun g _ h => .inl h), fun g hg => (hhas g hg).imp id (fun h => h.imp id (fun h => ⟨h, hsf.lt hg⟩))⟩, HOY.out.2.1, ?_, fun a b hp g hg => ?_⟩; have hwy := hsf.y.e n (Nat.lt_succ_self n); simp only [upN_same] at hwy
 rotate_left
 . obtain ⟨j, hj, he⟩ := List.mem_iff_getElem.1 hp; have h7 : w4.heap.size <= g := HOY.out.2.2.2 j hj (by have := HOY.out.2.2.1; have := HL.out.2.1; omega) g (by rw [he]; exact hg); have := HA.out.2.2.2.2.2; omega
 refine ⟨by rw [HOY.out.2.2.1]; exact hwy, fun p hp => ?_, HOY.out.1.m, HOY.out.1.l⟩; refine ((HOY.out.1.o p hp).keep HK57.out fun g hg he => row_ne (HA.out.1.yv.r.below H5.out.2.1) (HOY.out.1.o p hp) pks_opt_ne g he hg).keep hk8 fun g hg he => ?_; subst he; obtain ⟨_, cur, hcur⟩ := (HOY.out.1.o p hp).blk hg; rw [HS.out w5 (Keep.of_below _ H5.out.2.1)] at hcur; cases hcur
 exact HL.out.2.2.2 rfl
structure BookP (h0 : Nat) (w : World) (bb : Nat) (D E : KD) : Prop where
 blk : w.heap[bb]? = some (.cells (bookC nilS nilS D.v1 D.v2 E.v1 E.v2) 42 (0, 0))
 i : ShelfV 91 62 2 w D
 p : ShelfV 93 96 4 w E
 eqs : ∀ i, i < D.n -> ∃ xs : List Opt, xs.length = D.m i /\ D.cs i = oV xs /\ D.ds i = oV xs
 eqp : ∀ i, i < E.n -> ∃ A B, OwnP w (E.X i) A /\ OwnP w (E.Y i) B /\ A.map Prod.fst = B.map Prod.fst /\ (∀ p ∈ A, ∀ g, p.2.ownBlock = some g -> h0 <= g) /\ (∀ p ∈ B, ∀ g, p.2.ownBlock = some g -> h0 <= g)
 lo : ∀ g, D.Has g \/ E.Has g -> h0 <= g
section
variable {h0 : Nat} {w w' : World} {bb : Nat} {D E : KD}
theorem BookP.lt (h : BookP h0 w bb D E) : bb < w.heap.size := (Array.getElem?_eq_some_iff.1 h.blk).1
theorem BookP.no (h : BookP h0 w bb D E) : ¬ D.Has bb := fun hg => by
 obtain ⟨cur, e | e⟩ := h.i.type hg
 . rw [h.blk] at e; cases e
 . rw [h.blk] at e; cases e
theorem BookP.no' (h : BookP h0 w bb D E) : ¬ E.Has bb := fun hg => by
 obtain ⟨cur, e | e⟩ := h.p.type hg
 . rw [h.blk] at e; cases e
 . rw [h.blk] at e; cases e
theorem BookP.ne (h : BookP h0 w bb D E) : ∀ g, D.Has g -> E.Has g -> False := fun g h1 h2 => by
 obtain ⟨c1, e1 | e1⟩ := h.i.type h1 <;> obtain ⟨c2, e2 | e2⟩ := h.p.type h2 <;> (rw [e1] at e2; cases e2)
theorem BookP.keep {Z : Nat -> Prop} (h : BookP h0 w bb D E) (hk : Keep Z w w') (hb : ¬ Z bb) (hs : ∀ g, h0 <= g -> ¬ Z g) : BookP h0 w' bb D E where
 blk := (hk.block bb h.lt hb).trans h.blk
 i := h.i.keep hk fun g hg => hs g (h.lo g (.inl hg))
 p := h.p.keep hk fun g hg => hs g (h.lo g (.inr hg))
 eqs := h.eqs
 eqp := fun i hi => by
  obtain ⟨A, B, hA, hB, he, h1, h2⟩ := h.eqp i hi; have hx : ∀ g, (E.X i).ownBlock = some g -> h0 <= g := fun g hg => h.lo g (.inr (.inl (.inr ⟨i, hi, hg⟩))); have hy : ∀ g, (E.Y i).ownBlock = some g -> h0 <= g := fun g hg => h.lo g (.inr (.inr (.inr ⟨i, hi, hg⟩))); exact ⟨A, B, ⟨hA.r.keep hk fun g hg => hs g (hx g hg), fun p hp => (hA.o p hp).keep hk fun g hg => hs g (h1 p hp g hg), hA.m, hA.l⟩, ⟨hB.r.keep hk fun g hg => hs g (hy g hg), fun p hp => (hB.o p hp).keep hk fun g hg => hs g (h2 p hp g hg), hB.m, hB.l⟩, he, h1, h2⟩
 lo := h.lo
theorem BookP.below (h : BookP h0 w bb D E) (hb : Below w.heap.size w w') : BookP h0 w' bb D E := h.keep (Keep.of_below (fun _ => False) hb) (fun h => h) (fun _ _ h => h)
end
structure GrL (mk : Nat -> Nat -> List Value) (Z : Nat -> Prop) (w : World) (v1 o : Value) (n : Nat) (X : Nat -> Value) (m : Nat -> Nat) : Prop where
 g : ∃ G, RowR w o n ((List.range n).map G) /\ (∀ i, i < n -> RowR w (G i) (m i + 72) (marksC mk i 0 (m i + 72))) /\ (∀ q, o.ownBlock = some q -> ¬ Z q) /\ (∀ i, i < n -> ∀ q, (G i).ownBlock = some q -> ¬ Z q)
 x : RowR w v1 n ((List.range n).map X) /\ ∀ i, i < n -> RowR w (X i) (m i) (marksC mk i 0 (m i))
theorem GrL.keep {mk : Nat -> Nat -> List Value} {Z : Nat -> Prop} {w w' : World} {v1 o : Value} {n : Nat} {X : Nat -> Value} {m : Nat -> Nat} (h : GrL mk Z w v1 o n X m) (hk : Keep Z w w') (h1 : ∀ q, v1.ownBlock = some q -> ¬ Z q) (h2 : ∀ i, i < n -> ∀ q, (X i).ownBlock = some q -> ¬ Z q) : GrL mk Z w' v1 o n X m where
 g := by
  obtain ⟨G, g1, g2, g3, g4⟩ := h.g; exact ⟨G, g1.keep hk g3, fun i hi => (g2 i hi).keep hk (g4 i hi), g3, g4⟩
 x := ⟨h.x.1.keep hk h1, fun i hi => (h.x.2 i hi).keep hk (h2 i hi)⟩
theorem GrL.below {mk : Nat -> Nat -> List Value} {Z : Nat -> Prop} {w w' : World} {v1 o : Value} {n : Nat} {X : Nat -> Value} {m : Nat -> Nat} (h : GrL mk Z w v1 o n X m) (hb : Below w.heap.size w w') : GrL mk Z w' v1 o n X m where
 g := by
  obtain ⟨G, g1, g2, g3, g4⟩ := h.g; exact ⟨G, g1.below hb, fun i hi => (g2 i hi).below hb, g3, g4⟩
 x := ⟨h.x.1.below hb, fun i hi => (h.x.2 i hi).below hb⟩
structure TwoV (w : World) (bb : Nat) (D E : KD) (cs : Nat -> List Value) : Prop where
 blk : w.heap[bb]? = some (.cells (bookC nilS nilS D.v1 D.v2 E.v1 E.v2) 42 (0, 0))
 x : XV 91 62 2 w D.v1 D.n D.X D.m cs
 y : XV 93 96 4 w E.v1 E.n E.X E.m (fun i => marksC mkP i 0 (E.m i))
def EX (E : KD) (q : Nat) : Prop := ∃ j, j < E.n /\ (E.X j).ownBlock = some q
structure Two5 (w : World) (bb : Nat) (D E : KD) (o : Value) : Prop where
 blk : w.heap[bb]? = some (.cells (bookC nilS nilS D.v1 D.v2 E.v1 E.v2) 42 (0, 0))
 x : GrL mkO (EX E) w D.v1 o D.n D.X D.m
 y : XV 93 96 4 w E.v1 E.n E.X E.m (fun i => marksC mkP i 0 (E.m i))
structure Two6 (w : World) (bb : Nat) (D E : KD) (o p : Value) : Prop where
 blk : w.heap[bb]? = some (.cells (bookC nilS nilS D.v1 D.v2 E.v1 E.v2) 42 (0, 0))
 x : GrL mkO (EX E) w D.v1 o D.n D.X D.m
 y : GrL mkP (fun _ => False) w E.v1 p E.n E.X E.m
theorem Two6.below {w w' : World} {bb : Nat} {D E : KD} {o p : Value} (h : Two6 w bb D E o p) (hb : Below w.heap.size w w') : Two6 w' bb D E o p := ⟨(hb.block bb (Array.getElem?_eq_some_iff.1 h.blk).1).trans h.blk, h.x.below hb, h.y.below hb⟩
theorem apartP {h0 : Nat} {w : World} {bb : Nat} {D E : KD} (h : BookP h0 w bb D E) : Calls Tryz.prog 13 #[.pointer (some ⟨bb, 0, none⟩)] w fun e w' => e = .returned (.bool true) /\ Keep (fun g => D.Has g \/ E.Has g) w w' := by
 have hle := h.i.le; have hn := h.i.hn; have hle' := h.p.le; have hn' := h.p.hn; have hno := h.no; have hno' := h.no'; have hsep := h.ne; obtain ⟨s1, k1, e1, -, -⟩ := h.i.x.r.form; obtain ⟨s3, k3, e3, -, -⟩ := h.p.x.r.form; have hne : ∀ i, i < D.n -> (D.X i).ownBlock ≠ some bb := fun i hi he => hno (.inl (.inr ⟨i, hi, he⟩)); have hne' : ∀ i, i < E.n -> (E.X i).ownBlock ≠ some bb := fun i hi he => hno' (.inl (.inr ⟨i, hi, he⟩)); have hv1 : D.v1.ownBlock ≠ some bb := fun he => hno (.inl (.inl he)); have hv3 : E.v1.ownBlock ≠ some bb := fun he => hno' (.inl (.inl he)); have hDX : ∀ g, XHas D.v1 D.n D.X g -> ¬ EX E g := fun g hg ⟨j, hj, he⟩ => hsep g (.inl hg) (.inl (.inr ⟨j, hj, he⟩)); have hEX : ∀ g, XHas E.v1 E.n E.X g -> ¬ ∃ j, j < D.n /\ (D.X j).ownBlock = some g := fun g hg ⟨j, hj, he⟩ => hsep g (.inl (.inr ⟨j, hj, he⟩)) (.inl hg); obtain ⟨w0, hw0⟩ : ∃ w0, w0 = w := ⟨_, rfl⟩
 have HH : ApartH bb (.slice none 0 0) nilS D.v1 D.v2 E.v1 E.v2 (fun w => BookP h0 w bb D E /\ Keep (fun g => D.Has g \/ E.Has g) w0 w) (fun w => TwoV w bb D E D.cs /\ Keep (fun g => D.Has g \/ E.Has g) w0 w)
  (fun w => TwoV w bb D E D.cs /\ Keep (fun g => D.Has g \/ E.Has g) w0 w) (fun w => TwoV w bb D E (fun i => marksC mkO i 0 (D.m i)) /\ Keep (fun g => D.Has g \/ E.Has g) w0 w) (fun g w => g = .slice none 0 0 /\ TwoV w bb D E (fun i => marksC mkO i 0 (D.m i)) /\ Keep (fun g => D.Has g \/ E.Has g) w0 w)
  (fun g o w => g = .slice none 0 0 /\ Two5 w bb D E o /\ Keep (fun g => D.Has g \/ E.Has g) w0 w) (fun g o p w => g = .slice none 0 0 /\ Two6 w bb D E o p /\ Keep (fun g => D.Has g \/ E.Has g) w0 w) := {
  b0 := fun w h => h.1.blk
  b1 := fun w h => h.1.blk
  b2 := fun w h => h.1.blk
  b3 := fun w h => h.1.blk
  b4 := fun _ w h => h.2.1.blk
  b5 := fun _ _ w h => h.2.1.blk
  b6 := fun _ _ _ w h => h.2.1.blk
  sI := fun w h => (stillInts_nil bb w (bcell h.1.blk 2 _ rfl)).mono fun e w' h' => ⟨h'.1, h'.2 ▸ h⟩
  sO := fun w h => (stillO_any _ bb w h.1.i (bcell h.1.blk 8 _ rfl) (bcell h.1.blk 9 _ rfl) h.1.lt h.1.eqs).mono fun e w' h' => ⟨h'.1, h.1.below h'.2, h.2.trans (Keep.of_below _ h'.2)⟩
  sP := fun w h => (stillP_any _ bb w h.1.p (bcell h.1.blk 10 _ rfl) (bcell h.1.blk 11 _ rfl) h.1.lt (fun i hi => by
   obtain ⟨A, B, hA, hB, he, -, -⟩ := h.1.eqp i hi
   exact ⟨A, B, hA.pk, hB.pk, he, hA.l⟩)).mono fun e w' h' => ⟨h'.1, h.1.below h'.2, h.2.trans (Keep.of_below _ h'.2)⟩
  pP := fun w h => (putP_any _ E.n E.X E.m E.cs bb w h.1.p.x (bcell h.1.blk 10 _ rfl) h.1.lt hv3 hne' hn' hle').mono fun e w' h' =>
   ⟨h'.1, ⟨(h'.2.kp.block bb h.1.lt (fun ⟨j, hj, he⟩ => hne' j hj he)).trans h.1.blk, h.1.i.x.keep h'.2.kp (fun g hg => hDX g hg), h'.2.x.cong (fun i hi => by unfold mixC; rw [if_pos hi])⟩, h.2.transM h'.2.kp (fun _ _ h => h) (fun g _ ⟨j, hj, he⟩ => .inr (.inl (.inr ⟨j, hj, he⟩)))⟩
  pI := fun w h => (putInts_nil bb w (bcell h.1.blk 2 _ rfl)).mono fun e w' h' => ⟨⟨_, h'.1⟩, h'.2 ▸ h⟩
  pO := fun w h => (putO_any _ D.n D.X D.m D.cs bb w h.1.x (bcell h.1.blk 8 _ rfl) (Array.getElem?_eq_some_iff.1 h.1.blk).1 hv1 hne hn hle).mono fun e w' h' =>
   ⟨h'.1, ⟨(h'.2.kp.block bb (Array.getElem?_eq_some_iff.1 h.1.blk).1 (fun ⟨j, hj, he⟩ => hne j hj he)).trans h.1.blk, h'.2.x.cong (fun i hi => by unfold mixC; rw [if_pos hi]), h.1.y.keep h'.2.kp (fun g hg => hEX g hg)⟩, h.2.transM h'.2.kp (fun _ _ h => h) (fun g _ ⟨j, hj, he⟩ => .inl (.inl (.inr ⟨j, hj, he⟩)))⟩
  gI := fun w h => (growInts_nil bb w (bcell h.1.blk 2 _ rfl)).mono fun e w' h' => ⟨_, h'.1, rfl, h'.2 ▸ h⟩
  gO := fun g w h => (growO_any _ D.n D.X D.m bb w h.2.1.x (bcell h.2.1.blk 8 _ rfl) (Array.getElem?_eq_some_iff.1 h.2.1.blk).1 hne hn hle).mono fun e w' h' => by
   obtain ⟨out, G, he, hg⟩ := h'; have hlt : ∀ q, EX E q -> q < w.heap.size := fun q ⟨j, hj, he⟩ => ((h.2.1.y.e j hj).blk he).1
   refine ⟨out, he, h.1, ⟨(hg.kp.block bb (Array.getElem?_eq_some_iff.1 h.2.1.blk).1 (fun ⟨j, hj, he⟩ => hne j hj he)).trans h.2.1.blk, ⟨⟨G, hg.o.rd, fun i hi => (hg.g i hi).rd, fun q hq hz => by have := hg.ob q hq; have := hlt q hz; omega, fun i hi q hq hz => ?_⟩, ?_, hg.x⟩, h.2.1.y.keep hg.kp (fun g hg => hEX g hg)⟩,
    h.2.2.transM hg.kp (fun _ _ h => h) (fun g _ ⟨j, hj, he⟩ => .inl (.inl (.inr ⟨j, hj, he⟩)))⟩
   . rcases hg.gb i hi q hq with h7 | h7
     . exact hDX q (.inr ⟨i, hi, h7⟩) hz
     . have := hlt q hz; omega
   . exact h.2.1.x.r.rd.keep hg.kp fun q hq ⟨j, hj, he⟩ => h.2.1.x.rowNe opts_ne j hj q hq he
  gP := fun g o w h => (growP_any _ E.n E.X E.m bb w h.2.1.y (bcell h.2.1.blk 10 _ rfl) (Array.getElem?_eq_some_iff.1 h.2.1.blk).1 hne' hn' hle').mono fun e w' h' => by
   obtain ⟨out, G, he, hg⟩ := h'
   refine ⟨out, he, h.1, ⟨(hg.kp.block bb (Array.getElem?_eq_some_iff.1 h.2.1.blk).1 (fun ⟨j, hj, he⟩ => hne' j hj he)).trans h.2.1.blk, h.2.1.x.keep hg.kp (fun q hq => hDX q (.inl hq)) (fun i hi q hq => hDX q (.inr ⟨i, hi, hq⟩)), ⟨⟨G, hg.o.rd, fun i hi => (hg.g i hi).rd, fun _ _ h => h, fun _ _ _ _ h => h⟩, ?_, hg.x⟩⟩,
    h.2.2.transM hg.kp (fun _ _ h => h) (fun g _ ⟨j, hj, he⟩ => .inr (.inl (.inr ⟨j, hj, he⟩)))⟩
   exact h.2.1.y.r.rd.keep hg.kp fun q hq ⟨j, hj, he⟩ => h.2.1.y.rowNe pks_ne j hj q hq he
  mI := fun g o p w h => by
   obtain ⟨rfl, h2, h3⟩ := h; exact (markedInts_nil w).mono fun e w' h' => ⟨h'.1, rfl, h'.2 ▸ h2, h'.2 ▸ h3⟩
  mI' := fun g o p w h => (markedInts_nil w).mono fun e w' h' => ⟨h'.1, h'.2 ▸ h⟩
  mO := fun g o p w h => by
   obtain ⟨h1, h3, h6⟩ := h; obtain ⟨G, h4, h5, -, -⟩ := h3.x.g; exact (markedO_any o D.n G (fun i => D.m i + 72) w h4 hn (fun i hi => ⟨h5 i hi, show D.m i + 72 <= 200000 from by have := hle i hi; omega⟩)).mono fun e w' h' => ⟨h'.1, h1, h3.below h'.2, h6.trans (Keep.of_below _ h'.2)⟩
  mO' := fun g o p w h => by
   obtain ⟨h1, h3, h6⟩ := h; exact (markedO_any _ D.n D.X D.m w h3.x.x.1 hn (fun i hi => ⟨h3.x.x.2 i hi, by have := hle i hi; omega⟩)).mono fun e w' h' => ⟨h'.1, h1, h3.below h'.2, h6.trans (Keep.of_below _ h'.2)⟩
  mP := fun g o p w h => by
   obtain ⟨h1, h3, h6⟩ := h; obtain ⟨G, h4, h5, -, -⟩ := h3.y.g; exact (markedP_any p E.n G (fun i => E.m i + 72) w h4 hn' (fun i hi => ⟨h5 i hi, show E.m i + 72 <= 200000 from by have := hle' i hi; omega⟩)).mono fun e w' h' => ⟨h'.1, h1, h3.below h'.2, h6.trans (Keep.of_below _ h'.2)⟩
  mP' := fun g o p w h => by
   obtain ⟨h1, h3, h6⟩ := h
   exact (markedP_any _ E.n E.X E.m w h3.y.x.1 hn' (fun i hi => ⟨h3.y.x.2 i hi, by have := hle' i hi; omega⟩)).mono fun e w' h' => ⟨h'.1, h1, h3.below h'.2, h6.trans (Keep.of_below _ h'.2)⟩ }
 subst hw0; rw [e1, e3] at HH; exact (apart_any (H_ HH) w0 (H_ ⟨h, Keep.refl _ _⟩)).mono fun e w' h' => ⟨h'.1, by obtain ⟨_, _, _, _, _, h⟩ := h'.2; exact h⟩
theorem OwnP.one {w : World} {a : Value} {L : List (Pk × Value)} (h : OwnP w a L) : ∀ u ∈ (pkL L).flatten, u.oneCell' = true := by
 intro u hu; simp only [List.mem_flatten, pkL, List.mem_map] at hu; obtain ⟨_, ⟨p, hp, rfl⟩, hu⟩ := hu; obtain ⟨s1, q1, e1, -, -⟩ := (h.o p hp).form; simp only [pkCells, List.mem_cons, List.not_mem_nil, or_false] at hu
 rcases hu with rfl | rfl | rfl | rfl
 . rfl
 . rfl
 . rw [e1]; rfl
 . rfl
theorem OwnP.keep {Z : Nat -> Prop} {w w' : World} {a : Value} {L : List (Pk × Value)} (h : OwnP w a L) (hk : Keep Z w w') (ha : ∀ g, a.ownBlock = some g -> ¬ Z g) (ho : ∀ p ∈ L, ∀ g, p.2.ownBlock = some g -> ¬ Z g) : OwnP w' a L :=
 ⟨h.r.keep hk ha, fun p hp => (h.o p hp).keep hk (ho p hp), h.m, h.l⟩
structure BookAddP (h0 : Nat) (w w' : World) (bb : Nat) (D E D' E' : KD) (x : Value) : Prop where
 b : BookP h0 w' bb D' E'
 kp : Keep (fun g => g = bb \/ D.v1.ownBlock = some g \/ D.v2.ownBlock = some g \/ E.v1.ownBlock = some g \/ E.v2.ownBlock = some g) w w'
 has : ∀ g, D'.Has g -> D.Has g \/ x.ownBlock = some g \/ (w.heap.size <= g /\ g < w'.heap.size)
 hasE : ∀ g, E'.Has g -> E.Has g \/ x.ownBlock = some g \/ (w.heap.size <= g /\ g < w'.heap.size)
theorem bookP_addO {h0 : Nat} {w : World} {bb : Nat} {D E : KD} {x : Value} {xs : List Opt} (h : BookP h0 w bb D E) (hs0 : h0 <= w.heap.size) (hx : BRow 91 2 w x xs.length (oV xs)) (hl : xs.length <= 100000) (hxs : ∀ g, x.ownBlock = some g -> ¬ D.Has g) (hbx : x.ownBlock ≠ some bb) (hx0 : ∀ g, x.ownBlock = some g -> h0 <= g) :
 Calls Tryz.prog 35 #[.pointer (some ⟨bb, 0, none⟩), x] w fun e w' => (∃ r, e = .returned r) /\ ∃ D', BookAddP h0 w w' bb D E D' E x := by
 by_cases hr : D.n < 250
 . refine (addO_any D x xs.length (oV xs) bb _ 42 w h.i hx (oV_one _) hl hxs h.blk rfl rfl h.no hbx hr).mono ?_; rintro e w' ⟨he, v1, v2, y, ha⟩
   have hE : ∀ g, E.Has g -> ¬ (g = bb \/ D.v1.ownBlock = some g \/ D.v2.ownBlock = some g) := fun g hg hz => by
    rcases hz with rfl | hz | hz
    . exact h.no' hg
    . exact h.ne g (.inl (.inl hz)) hg
    . exact h.ne g (.inr (.inl hz)) hg
   have hO : ∀ (v : Value) (n : Nat) (us : List Value), BRow 91 2 w v n us -> ∀ g, v.ownBlock = some g -> ¬ (g = bb \/ D.v1.ownBlock = some g \/ D.v2.ownBlock = some g) := fun v n us hv g hg hz => by
    rcases hz with rfl | hz | hz
    . obtain ⟨_, cur, hcur⟩ := hv.blk hg; rw [h.blk] at hcur; cases hcur
    . exact row_ne h.i.x.r hv opts_ne g hz hg
    . exact row_ne h.i.y.r hv opts_ne g hz hg
   refine ⟨he, _, ⟨ha.b, ha.s, h.p.keep ha.kp hE, ?_, ?_, ?_⟩, ha.kp.mono ?_, ha.has, fun g hg => .inl hg⟩
   . intro i hi; simp only at hi ⊢
     by_cases hin : i = D.n
     . subst hin; rw [upN_same, upN_same, upN_same]; exact ⟨xs, rfl, rfl, rfl⟩
     . rw [upN_ne _ _ hin, upN_ne _ _ hin, upN_ne _ _ hin]; exact h.eqs i (by omega)
   . intro i hi; obtain ⟨A, B, hA, hB, hAB, h1, h2⟩ := h.eqp i hi; exact ⟨A, B, hA.keep ha.kp (fun g hg => hE g (.inl (.inr ⟨i, hi, hg⟩))) (fun p hp => hO _ _ _ (hA.o p hp)), hB.keep ha.kp (fun g hg => hE g (.inr (.inr ⟨i, hi, hg⟩))) (fun p hp => hO _ _ _ (hB.o p hp)), hAB, h1, h2⟩
   . rintro g (hg | hg)
     . rcases ha.has g hg with h1 | h1 | h1
       . exact h.lo g (.inl h1)
       . exact hx0 g h1
       . omega
     . exact h.lo g (.inr hg)
   . intro k _ hk
     rcases hk with hk | hk | hk
     . exact .inl hk
     . exact .inr (.inl hk)
     . exact .inr (.inr (.inl hk))
 . obtain ⟨sa, c, e1, -, -⟩ := h.i.x.r.form; refine (addO_full bb x sa D.n c w ?_ (by omega)).mono ?_
   . rw [<- e1]; exact bcell h.blk 8 _ rfl
   . rintro e w' ⟨he, rfl⟩; exact ⟨he, D, h, Keep.refl _ _, fun g hg => .inl hg, fun g hg => .inl hg⟩
set_option maxRecDepth 100000 in
theorem addP_full (bb : Nat) (x : Value) (sa : Option Addr) (n c : Nat) (w : World) (c1 : w.cell? ⟨bb, 10, none⟩ = some (.slice sa n c)) (hn : 250 <= n) :
 Calls Tryz.prog 175 #[.pointer (some ⟨bb, 0, none⟩), x] w fun e w' => (∃ r, e = .returned r) /\ w = w' := by
 go_enter Tryz.func175, Tryz.ntmps175; go_wp2_with fail
 go_end0
 exact ⟨⟨_, rfl⟩, rfl⟩
theorem bookP_addP {h0 : Nat} {w : World} {bb : Nat} {D E : KD} {x : Value} {L : List (Pk × Value)} (h : BookP h0 w bb D E) (hs0 : h0 <= w.heap.size) (hx : OwnP w x L) (hxs : ∀ g, x.ownBlock = some g -> ¬ E.Has g) (hbx : x.ownBlock ≠ some bb) (hx0 : ∀ g, x.ownBlock = some g -> h0 <= g) (ho0 : ∀ p ∈ L, ∀ g, p.2.ownBlock = some g -> h0 <= g) :
 Calls Tryz.prog 175 #[.pointer (some ⟨bb, 0, none⟩), x] w fun e w' => (∃ r, e = .returned r) /\ ∃ E', BookAddP h0 w w' bb D E D E' x := by
 by_cases hr : E.n < 250
 . refine (addP_any E x L.length (pkL L).flatten bb _ 42 w h.p hx.r hx.one (by have := hx.l; omega) hxs h.blk rfl rfl h.no' hbx hr L hx rfl rfl (by decide)).mono ?_; rintro e w' ⟨he, v1, v2, y, L', ha, hLL, hY, hYn⟩
   have hD : ∀ g, D.Has g -> ¬ (g = bb \/ E.v1.ownBlock = some g \/ E.v2.ownBlock = some g) := fun g hg hz => by
    rcases hz with rfl | hz | hz
    . exact h.no hg
    . exact h.ne g hg (.inl (.inl hz))
    . exact h.ne g hg (.inr (.inl hz))
   have hE : ∀ (T : TypeId) (k : Nat) (v : Value) (n : Nat) (us : List Value), BRow T k w v n us -> 96 ≠ T -> 42 ≠ T -> ∀ g, v.ownBlock = some g -> ¬ (g = bb \/ E.v1.ownBlock = some g \/ E.v2.ownBlock = some g) := fun T k v n us hv hT hT2 g hg hz => by
    rcases hz with rfl | hz | hz
    . obtain ⟨_, cur, hcur⟩ := hv.blk hg; rw [h.blk] at hcur; cases hcur; exact hT2 rfl
    . exact row_ne h.p.x.r hv hT g hz hg
    . exact row_ne h.p.y.r hv hT g hz hg
   refine ⟨he, _, ⟨ha.b, h.i.keep ha.kp hD, ha.s, h.eqs, ?_, ?_⟩, ha.kp.mono ?_, fun g hg => .inl hg, ha.has⟩
   . intro i hi; simp only at hi ⊢
     by_cases hin : i = E.n
     . subst hin; rw [upN_same, upN_same]; exact ⟨L, L', hx.keep ha.kp (hE _ _ _ _ _ hx.r (by decide) (by decide)) (fun p hp => hE _ _ _ _ _ (hx.o p hp) (by decide) (by decide)), hY, hLL.symm, ho0, fun p hp g hg => by have := hYn p hp g hg; omega⟩
     . rw [upN_ne _ _ hin, upN_ne _ _ hin]; obtain ⟨A, B, hA, hB, hAB, h1, h2⟩ := h.eqp i (by omega); exact ⟨A, B, hA.keep ha.kp (hE _ _ _ _ _ hA.r (by decide) (by decide)) (fun p hp => hE _ _ _ _ _ (hA.o p hp) (by decide) (by decide)), hB.keep ha.kp (hE _ _ _ _ _ hB.r (by decide) (by decide)) (fun p hp => hE _ _ _ _ _ (hB.o p hp) (by decide) (by decide)), hAB, h1, h2⟩
   . rintro g (hg | hg)
     . exact h.lo g (.inl hg)
     . rcases ha.has g hg with h1 | h1 | h1
       . exact h.lo g (.inr h1)
       . exact hx0 g h1
       . omega
   . intro k _ hk
     rcases hk with hk | hk | hk
     . exact .inl hk
     . exact .inr (.inr (.inr (.inl hk)))
     . exact .inr (.inr (.inr (.inr hk)))
 . obtain ⟨sa, c, e1, -, -⟩ := h.p.x.r.form; refine (addP_full bb x sa E.n c w ?_ (by omega)).mono ?_
   . rw [<- e1]; exact bcell h.blk 10 _ rfl
   . rintro e w' ⟨he, rfl⟩; exact ⟨he, E, h, Keep.refl _ _, fun g hg => .inl hg, fun g hg => .inl hg⟩
def BS (bb h0 : Nat) (w : World) (g : Nat) : Prop := g = bb \/ (h0 <= g /\ ∃ cur T, (T = 62 \/ T = 96) /\ w.heap[g]? = some (.cells cur T (0, 0)))
structure FreshP (h0 : Nat) (w : World) (bb : Nat) (D E : KD) (x : Value) (L : List (Pk × Value)) : Prop where
 own : OwnP w x L
 x0 : ∀ g, x.ownBlock = some g -> h0 <= g
 xE : ∀ g, x.ownBlock = some g -> ¬ E.Has g
 o0 : ∀ p ∈ L, ∀ g, p.2.ownBlock = some g -> h0 <= g
 oD : ∀ p ∈ L, ∀ g, p.2.ownBlock = some g -> ¬ D.Has g
 pw : ∀ i j (hi : i < L.length) (hj : j < L.length), i ≠ j -> ∀ g, L[i].2.ownBlock = some g -> L[j].2.ownBlock = some g -> False
structure BkSentI (h0 : Nat) (w wr : World) (bb : Nat) (D E D' E' : KD) (L : List (Pk × Value)) (k : Nat) : Prop where
 b : BookP h0 wr bb D' E'
 kp : Keep (BS bb h0 w) w wr
 has : ∀ g, D'.Has g -> D.Has g \/ (∃ j, ∃ hj : j < L.length, j < k /\ L[j].2.ownBlock = some g) \/ w.heap.size <= g
end Go.Proofs.YtignponfoheaeaaGreat
