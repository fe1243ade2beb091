import Derived.Test.YthhdackaopaojaaGreatV33
import Derived.Laws.IdiomStrings
namespace Go.Proofs.YthhdackaopaojaaGreat
open Go.RowKit Go.Tg Go.Maps

set_option maxHeartbeats 4000000 in
set_option maxRecDepth 100000 in
theorem wput_any (v : Nat) (w : World) (hv : v < 65536) :
    Calls Tryz.prog 130 #[.int .i64 (v : Int), .int .i64 2] w fun e w' => e = .returned (.tuple #[.string ⟨#[UInt8.ofNat (v / 256), UInt8.ofNat v]⟩, .int .i64 0]) ∧ Below w.heap.size w w' := by
  have d1 : decide ((v : Int) < 0) = false := by simp
  have hin : ∀ w, Calls Tryz.prog 131 #[.int .i64 2, .int .i64 1, .int .i64 4] w fun e w' => e = .returned (.bool true) ∧ w = w' := by
    intro w
    go_enter Tryz.func131, Tryz.ntmps131
    go_wp2
    go_ret
    exact ⟨rfl, rfl⟩
  have HIN := Lib.hid hin
  clear hin
  have d2 : (((v : Int) / 65536) != 0) = false := by simp; omega
  have hmk : ∀ w, (Instr.makeSlice 55 (.int .i64 2) (.int .i64 2)).run Tryz.prog w = .ok (.slice (some ⟨w.heap.size, 0, none⟩) 2 2) (w.alloc (.cells #[.int .u8 0, .int .u8 0] 5 (0, 0))) := fun w => by kernel_rfl
  have hcv : (convert 55 9 (.slice (some ⟨w.heap.size, 0, none⟩) 2 2)).run Tryz.prog (w.alloc (.cells #[.int .u8 ((v : Int) / 256), .int .u8 ((v : Int) % 256)] 5 (0, 0))) = .ok (.string ⟨#[UInt8.ofNat (v / 256), UInt8.ofNat v]⟩) (w.alloc (.cells #[.int .u8 ((v : Int) / 256), .int .u8 ((v : Int) % 256)] 5 (0, 0))) := by
    have hx := at1 w (.cells #[.int .u8 ((v : Int) / 256), .int .u8 ((v : Int) % 256)] 5 (0, 0))
    refine run_convert_bytes_back (P := Tryz.prog) _ 55 9 5 ⟨w.heap.size, 0, none⟩ 2 [UInt8.ofNat (v / 256), UInt8.ofNat v] Tryz.underlying55 Tryz.underlying5 Tryz.underlying9 (fun j hj => ?_)
    rw [Addr.add_lit, Nat.zero_add]
    have e1 : (UInt8.ofNat (v / 256)).toNat = v / 256 := by rw [UInt8.toNat_ofNat']; omega
    have e2 : (UInt8.ofNat v).toNat = v % 256 := by rw [UInt8.toNat_ofNat']
    match j, hj with
    | 0, _ => simp only [List.getElem_cons_zero]; rw [e1]; exact cellOf hx 0 _ (by simp)
    | 1, _ => simp only [List.getElem_cons_zero, List.getElem_cons_succ]; rw [e2]; exact cellOf hx 1 _ (by simp)
  go_enter Tryz.func130, Tryz.ntmps130
  go_wp2_with (go_at_call 131; refine (HIN.out _).mono ?_; rintro e w1 ⟨rfl, rfl⟩)
  refine wp_loop_rounds 3 ?_
  rw [rounds_succ]
  go_wp2_with fail
  rw [rounds_succ]
  go_wp2_with fail
  rw [rounds_succ]
  go_wp2_with fail
  go_ret2
  exact ⟨rfl, (Below.refl _ _).alloc (Nat.le_refl _) _⟩

def numB (p : Pk) : Bool := (decide (0 ≤ p.code) && decide (p.code ≤ 255)) && (decide (0 ≤ p.id) && decide (p.id ≤ 255))
def hasO (c : Int) : Bool := decide (1 ≤ c) && decide (c ≤ 4)

set_option maxHeartbeats 4000000 in
set_option maxRecDepth 100000 in
theorem numbered_any (p : Pk) (po : Value) (ok : Nat → Prop) (w : World) (ho : Opts w ok po p.o) : Calls Tryz.prog 127 #[pkV p po] w fun e w' => e = .returned (.bool (numB p)) ∧ Below w.heap.size w w' := by
  obtain ⟨a1, k1, rfl, -, -⟩ := ho.form
  have hi := fun w => in_any p.code 0 255 w
  have hj := fun w => in_any p.id 0 255 w
  have hz := at1 w (.cells #[.int .i64 p.code, .int .i64 p.id, (.slice a1 p.o.length k1), .string p.d] 38 (0, 0))
  unfold numB pkV
  have HI := Lib.hid hi
  have HJ := Lib.hid hj
  clear ho hi hj
  generalize (decide (0 ≤ p.code) && decide (p.code ≤ 255)) = x at *
  generalize (decide (0 ≤ p.id) && decide (p.id ≤ 255)) = y at *
  cases x
  · go_enter Tryz.func127, Tryz.ntmps127
    go_wp2_with (first | (go_at_call 53; refine (HI.out _).mono ?_; rintro e w1 ⟨rfl, rfl⟩))
    go_ret
    exact ⟨rfl, (Below.refl _ _).alloc (Nat.le_refl _) _⟩
  · go_enter Tryz.func127, Tryz.ntmps127
    go_wp2_with fail
    refine (HI.out _).mono ?_
    rintro e w1 ⟨rfl, rfl⟩
    go_wp2_with fail
    refine (HJ.out _).mono ?_
    rintro e w1 ⟨rfl, rfl⟩
    go_wp2_with fail
    go_ret
    exact ⟨by simp, (Below.refl _ _).alloc (Nat.le_refl _) _⟩
theorem hasO_any (c : Int) (w : World) : Calls Tryz.prog 128 #[.int .i64 c] w fun e w' => e = .returned (.bool (hasO c)) ∧ w = w' := by
  have hi := Lib.hid (fun w => in_any c 1 4 w)
  unfold hasO
  generalize (decide (1 ≤ c) && decide (c ≤ 4)) = x at *
  go_enter Tryz.func128, Tryz.ntmps128
  go_wp2_with fail
  refine (hi.out _).mono ?_
  rintro e w1 ⟨rfl, rfl⟩
  go_wp2_with fail
  go_ret
  exact ⟨rfl, rfl⟩

/-- A packet's bytes. -/
def layB (c i : Nat) (b : ByteArray) : ByteArray := (ByteArray.mk #[UInt8.ofNat c, UInt8.ofNat i] ++ ByteArray.mk #[UInt8.ofNat ((b.size + 4) / 256), UInt8.ofNat (b.size + 4)]) ++ b

set_option maxHeartbeats 4000000 in
set_option maxRecDepth 100000 in
theorem lay_ok (p : Pk) (po : Value) (ok : Nat → Prop) (b : ByteArray) (c i : Nat) (w : World) (ho : Opts w ok po p.o) (hc : p.code = c) (hi : p.id = i) (hc1 : c ≤ 255) (hi1 : i ≤ 255) (hb : b.size ≤ 1488) :
    Calls Tryz.prog 129 #[pkV p po, .string b] w fun e w' => e = .returned (.tuple #[.string (layB c i b), .int .i64 0]) ∧ Below w.heap.size w w' := by
  obtain ⟨a1, k1, rfl, -, -⟩ := ho.form
  obtain ⟨pc, pi, pl, pd⟩ := p
  simp only at hc hi
  subst hc hi
  unfold pkV
  have d1 : decide ((1488 : Int) < (b.size : Int)) = false := by simp; omega
  have ha : wrap64 ((b.size : Int) + 4) = ((b.size + 4 : Nat) : Int) := by unfold wrap64; omega
  have HW := Lib.hid (fun w => wput_any (b.size + 4) w (by omega))
  have hb1 : Below w.heap.size w (w.alloc (.cells #[.int .i64 (c : Int), .int .i64 (i : Int), (.slice a1 pl.length k1), .string pd] 38 (0, 0))) := (Below.refl _ _).alloc (Nat.le_refl _) _
  have hz := at1 w (.cells #[.int .i64 (c : Int), .int .i64 (i : Int), (.slice a1 pl.length k1), .string pd] 38 (0, 0))
  have HB := Lib.hid (And.intro hb1 hz)
  clear ho hb1 hz
  go_enter Tryz.func129, Tryz.ntmps129
  go_wp2_with fail
  refine (HW.out _).mono ?_
  rintro e w2 ⟨rfl, b2⟩
  have hs2 := b2.size
  have hs1 : (w.alloc (.cells #[.int .i64 (c : Int), .int .i64 (i : Int), (.slice a1 pl.length k1), .string pd] 38 (0, 0))).heap.size = w.heap.size + 1 := alloc1 _ _
  have hz2 := (b2.block w.heap.size (by omega)).trans HB.out.2
  have e0 := cellOf hz2 0 _ rfl
  have e1 := cellOf hz2 1 _ rfl
  have HB2 := Lib.hid (HB.out.1.trans (b2.mono (by omega)))
  have hcv : (convert 55 9 (.slice (some ⟨w2.heap.size, 0, none⟩) 2 2)).run Tryz.prog (w2.alloc (.cells #[.int .u8 (c : Int), .int .u8 (i : Int)] 5 (0, 0))) = .ok (.string ⟨#[UInt8.ofNat c, UInt8.ofNat i]⟩) (w2.alloc (.cells #[.int .u8 (c : Int), .int .u8 (i : Int)] 5 (0, 0))) := by
    have hx := at1 w2 (.cells #[.int .u8 (c : Int), .int .u8 (i : Int)] 5 (0, 0))
    refine run_convert_bytes_back (P := Tryz.prog) _ 55 9 5 ⟨w2.heap.size, 0, none⟩ 2 [UInt8.ofNat c, UInt8.ofNat i] Tryz.underlying55 Tryz.underlying5 Tryz.underlying9 (fun j hj => ?_)
    rw [Addr.add_lit, Nat.zero_add]
    have e1 : (UInt8.ofNat c).toNat = c := by rw [UInt8.toNat_ofNat']; omega
    have e2 : (UInt8.ofNat i).toNat = i := by rw [UInt8.toNat_ofNat']; omega
    match j, hj with
    | 0, _ => simp only [List.getElem_cons_zero]; rw [e1]; exact cellOf hx 0 _ rfl
    | 1, _ => simp only [List.getElem_cons_zero, List.getElem_cons_succ]; rw [e2]; exact cellOf hx 1 _ rfl
  clear b2 hz2
  have HL := Lib.hid (show layB c i b = (ByteArray.mk #[UInt8.ofNat c, UInt8.ofNat i] ++ ByteArray.mk #[UInt8.ofNat ((b.size + 4) / 256), UInt8.ofNat (b.size + 4)]) ++ b from rfl)
  have sz1 : (ByteArray.mk #[UInt8.ofNat ((b.size + 4) / 256), UInt8.ofNat (b.size + 4)]).size = 2 := rfl
  have sz2 : (ByteArray.mk #[UInt8.ofNat c, UInt8.ofNat i]).size = 2 := rfl
  generalize ByteArray.mk #[UInt8.ofNat ((b.size + 4) / 256), UInt8.ofNat (b.size + 4)] = x1 at *
  generalize ByteArray.mk #[UInt8.ofNat c, UInt8.ofNat i] = x2 at *
  have sz3 : (x2 ++ x1).size = 4 := by rw [ByteArray.size_append, sz1, sz2]
  go_wp2_with fail
  go_ret2
  rw [HL.out]
  exact ⟨rfl, HB2.out.alloc HB2.out.size _⟩

set_option maxHeartbeats 4000000 in
theorem lay_long (p : Pk) (po : Value) (ok : Nat → Prop) (b : ByteArray) (w : World) (ho : Opts w ok po p.o) (hb : 1488 < b.size) (hb1 : b.size ≤ 1000000000) :
    Calls Tryz.prog 129 #[pkV p po, .string b] w fun e w' => e = .returned (.tuple #[.string noB, .int .i64 2]) ∧ Below w.heap.size w w' := by
  obtain ⟨a1, k1, rfl, -, -⟩ := ho.form
  unfold pkV
  have d1 : decide ((1488 : Int) < (b.size : Int)) = true := by simp; omega
  clear ho
  go_enter Tryz.func129, Tryz.ntmps129
  go_wp2_with fail
  go_ret2
  exact ⟨rfl, (Below.refl _ _).alloc (Nat.le_refl _) _⟩

theorem putS_le (l : List Opt) : (putS l).size ≤ 10000 := by
  unfold putS
  by_cases h : putE l = 0
  · rw [if_pos h]
    have hl : l.length ≤ 30 := by
      unfold putE at h
      by_cases h1 : 30 < l.length
      · rw [if_pos h1] at h; cases h
      · omega
    have hb : ∀ o ∈ l, o.v.size ≤ 253 := by
      unfold putE at h
      rw [if_neg (by omega)] at h
      intro o ho
      by_cases h2 : l.any badO = true
      · rw [if_pos h2] at h; cases h
      · have h3 : badO o = false := by
          cases hb : badO o with
          | false => rfl
          | true => exact absurd (List.any_eq_true.2 ⟨o, ho, hb⟩) h2
        unfold badO at h3
        simp at h3
        omega
    have := putB_size_aux l ⟨#[]⟩ hb
    have h0 : (ByteArray.mk #[]).size = 0 := rfl
    unfold putB
    omega
  · rw [if_neg h]; exact Nat.zero_le _

/-- What opts.Put makes of a packet. -/
def putBad (p : Pk) : Bool := !numB p || ((decide (0 < p.o.length) && !hasO p.code) || (decide (p.d.size ≠ 0) && hasO p.code))
def putPk (p : Pk) : ByteArray × Int :=
  if putBad p then (noB, 1) else if putE p.o ≠ 0 then (noB, putE p.o) else if 1488 < (putS p.o ++ p.d).size then (noB, 2) else (layB p.code.toNat p.id.toNat (putS p.o ++ p.d), 0)

theorem isE (d : ByteArray) : d.toList.isEmpty = !decide (d.size ≠ 0) := by
  rw [ByteArray.toList_eq]
  obtain ⟨⟨l⟩⟩ := d
  cases l with
  | nil => rfl
  | cons x l => simp [ByteArray.size]

set_option maxHeartbeats 8000000 in
set_option maxRecDepth 100000 in
theorem oput_any (p : Pk) (po : Value) (ok : Nat → Prop) (w : World) (ho : Opts w ok po p.o) (hl : p.o.length ≤ 1000000) (hv : ∀ o ∈ p.o, o.v.size ≤ 100000) (hd : p.d.size ≤ 100000000) :
    Calls Tryz.prog 123 #[pkV p po] w fun e w' => e = .returned (.tuple #[.string (putPk p).1, .int .i64 (putPk p).2]) ∧ Below w.heap.size w w' := by
  obtain ⟨n, a1, k1, hn, rfl, hk1, hk2⟩ : ∃ n a1 k1, n = p.o.length ∧ po = .slice a1 n k1 ∧ n ≤ k1 ∧ k1 ≤ maxLen := by
    obtain ⟨a1, k1, e, h1, h2⟩ := ho.form
    exact ⟨_, a1, k1, rfl, e, h1, h2⟩
  have hb1 : Below w.heap.size w (w.alloc (.cells #[.int .i64 p.code, .int .i64 p.id, (.slice a1 n k1), .string p.d] 38 (0, 0))) := (Below.refl _ _).alloc (Nat.le_refl _) _
  have hsz : w.heap.size < (w.alloc (.cells #[.int .i64 p.code, .int .i64 p.id, (.slice a1 n k1), .string p.d] 38 (0, 0))).heap.size := by rw [alloc1]; omega
  have hsz1 : w.heap.size ≤ (w.alloc (.cells #[.int .i64 p.code, .int .i64 p.id, (.slice a1 n k1), .string p.d] 38 (0, 0))).heap.size := Nat.le_of_lt hsz
  have HN := Lib.hid (numbered_any p _ ok (w.alloc (.cells #[.int .i64 p.code, .int .i64 p.id, (.slice a1 n k1), .string p.d] 38 (0, 0))) (ho.below hb1))
  have HH := Lib.hid (fun w => hasO_any p.code w)
  have HB := Lib.hid (And.intro hb1 (at1 w (.cells #[.int .i64 p.code, .int .i64 p.id, (.slice a1 n k1), .string p.d] 38 (0, 0))))
  have HO := Lib.hid (fun W (hW : Below w.heap.size w W) => put_any p.o _ ok W (ho.below hW) hl hv)
  have hde := isE p.d
  have HD := Lib.hid (show putPk p = _ from rfl)
  have HLN := Lib.hid hn
  have HNB : Hid (numB p = true → 0 ≤ p.code ∧ p.code ≤ 255 ∧ 0 ≤ p.id ∧ p.id ≤ 255) := Lib.hid (by unfold numB; simp; omega)
  have hbd : putBad p = (!numB p || ((decide (0 < p.o.length) && !hasO p.code) || (decide (p.d.size ≠ 0) && hasO p.code))) := rfl
  have HOL := Lib.hid ho
  unfold pkV at HN ⊢
  clear hb1 ho
  rw [← hn] at hl
  generalize hnb : numB p = nb at *
  rw [← hn] at hbd
  clear hn
  generalize hasO p.code = hh at *
  generalize decide (p.d.size ≠ 0) = dd at *
  cases nb with
  | false =>
    have HP := Lib.hid (show putPk p = (noB, 1) from by unfold putPk; rw [hbd]; rfl)
    clear hbd
    go_enter Tryz.func123, Tryz.ntmps123
    go_wp2_with (first
        | (go_at_call 127; refine HN.out.mono ?_; rintro e w2 ⟨rfl, b2⟩
           have hz2 := (b2.block w.heap.size hsz).trans HB.out.2
           have HB2 := Lib.hid (And.intro (HB.out.1.trans (b2.mono hsz1)) hz2)
           have e0 := cellOf hz2 0 _ rfl
           have e1 := cellOf hz2 1 _ rfl
           have e2 := cellOf hz2 2 _ rfl
           have e3 := cellOf hz2 3 _ rfl
           clear b2 hz2)
        | (go_at_call 128; refine (HH.out _).mono ?_; rintro e w3 ⟨rfl, rfl⟩))
    go_ret2
    rw [HP.out]
    exact ⟨rfl, HB2.out.1⟩
  | true =>
    obtain ⟨hn1, hn2, hn3, hn4⟩ := HNB.out rfl
    clear HNB
    rcases Nat.eq_zero_or_pos n with h0 | h0 <;> cases hh <;> cases dd
    · subst h0
      have HP := Lib.hid (show putPk p = (if putE p.o ≠ 0 then (noB, putE p.o) else if 1488 < (putS p.o ++ p.d).size then (noB, 2) else (layB p.code.toNat p.id.toNat (putS p.o ++ p.d), 0)) from by unfold putPk; rw [hbd]; rfl)
      clear hbd
      go_enter Tryz.func123, Tryz.ntmps123
      go_wp2_with (first
        | (go_at_call 127; refine HN.out.mono ?_; rintro e w2 ⟨rfl, b2⟩
           have hz2 := (b2.block w.heap.size hsz).trans HB.out.2
           have HB2 := Lib.hid (And.intro (HB.out.1.trans (b2.mono hsz1)) hz2)
           have e0 := cellOf hz2 0 _ rfl
           have e1 := cellOf hz2 1 _ rfl
           have e2 := cellOf hz2 2 _ rfl
           have e3 := cellOf hz2 3 _ rfl
           clear b2 hz2)
        | (go_at_call 128; refine (HH.out _).mono ?_; rintro e w3 ⟨rfl, rfl⟩))
      refine (HO.out _ HB2.out.1).mono ?_
      rintro e w4 ⟨rfl, b4⟩
      have hs2 := HB2.out.1.size
      have hlt2 : w.heap.size < w2.heap.size := (Array.getElem?_eq_some_iff.1 HB2.out.2).1
      have hz4 := (b4.block w.heap.size hlt2).trans HB2.out.2
      have HB4 := Lib.hid (And.intro (HB2.out.1.trans (b4.mono hs2)) hz4)
      have c0 := cellOf hz4 0 _ rfl
      have c1 := cellOf hz4 1 _ rfl
      have c2 := cellOf hz4 2 _ rfl
      have c3 := cellOf hz4 3 _ rfl
      clear b4 hz4
      by_cases he : putE p.o = 0
      · have hsz5 : (putS p.o ++ p.d).size ≤ 100010000 := by
          have : (putS p.o).size ≤ 10000 := putS_le p.o
          rw [ByteArray.size_append]; omega
        have HL5 : Hid (Calls Tryz.prog 129 #[pkV p (.slice a1 _ k1), .string (putS p.o ++ p.d)] w4 fun e w' => e = .returned (.tuple #[.string (putPk p).1, .int .i64 (putPk p).2]) ∧ Below w4.heap.size w4 w') := Lib.hid (by
          rw [HP.out, if_neg (by simp [he])]
          by_cases hq : 1488 < (putS p.o ++ p.d).size
          · rw [if_pos hq]; exact lay_long p _ ok _ w4 (HOL.out.below HB4.out.1) hq (by omega)
          · rw [if_neg hq]; exact lay_ok p _ ok _ p.code.toNat p.id.toNat w4 (HOL.out.below HB4.out.1) (by omega) (by omega) (by omega) (by omega) (by omega))
        have hcat : ((putS p.o).size : Int) + (p.d.size : Int) ≤ 100010000 := by rw [ByteArray.size_append] at hsz5; omega
        unfold pkV at HL5
        rw [he]
        go_wp2_with (go_at_call 129; refine HL5.out.mono ?_; rintro e w5 ⟨rfl, b5⟩)
        go_ret2
        exact ⟨rfl, HB4.out.1.trans (b5.mono HB4.out.1.size)⟩
      · have dq : decide (putE p.o ≠ 0) = true := by simp [he]
        go_wp2_with fail
        go_ret2
        rw [HP.out, if_pos he]
        exact ⟨rfl, HB4.out.1⟩
    · subst h0
      have HP := Lib.hid (show putPk p = (if putE p.o ≠ 0 then (noB, putE p.o) else if 1488 < (putS p.o ++ p.d).size then (noB, 2) else (layB p.code.toNat p.id.toNat (putS p.o ++ p.d), 0)) from by unfold putPk; rw [hbd]; rfl)
      clear hbd
      go_enter Tryz.func123, Tryz.ntmps123
      go_wp2_with (first
        | (go_at_call 127; refine HN.out.mono ?_; rintro e w2 ⟨rfl, b2⟩
           have hz2 := (b2.block w.heap.size hsz).trans HB.out.2
           have HB2 := Lib.hid (And.intro (HB.out.1.trans (b2.mono hsz1)) hz2)
           have e0 := cellOf hz2 0 _ rfl
           have e1 := cellOf hz2 1 _ rfl
           have e2 := cellOf hz2 2 _ rfl
           have e3 := cellOf hz2 3 _ rfl
           clear b2 hz2)
        | (go_at_call 128; refine (HH.out _).mono ?_; rintro e w3 ⟨rfl, rfl⟩))
      refine (HO.out _ HB2.out.1).mono ?_
      rintro e w4 ⟨rfl, b4⟩
      have hs2 := HB2.out.1.size
      have hlt2 : w.heap.size < w2.heap.size := (Array.getElem?_eq_some_iff.1 HB2.out.2).1
      have hz4 := (b4.block w.heap.size hlt2).trans HB2.out.2
      have HB4 := Lib.hid (And.intro (HB2.out.1.trans (b4.mono hs2)) hz4)
      have c0 := cellOf hz4 0 _ rfl
      have c1 := cellOf hz4 1 _ rfl
      have c2 := cellOf hz4 2 _ rfl
      have c3 := cellOf hz4 3 _ rfl
      clear b4 hz4
      by_cases he : putE p.o = 0
      · have hsz5 : (putS p.o ++ p.d).size ≤ 100010000 := by
          have : (putS p.o).size ≤ 10000 := putS_le p.o
          rw [ByteArray.size_append]; omega
        have HL5 : Hid (Calls Tryz.prog 129 #[pkV p (.slice a1 _ k1), .string (putS p.o ++ p.d)] w4 fun e w' => e = .returned (.tuple #[.string (putPk p).1, .int .i64 (putPk p).2]) ∧ Below w4.heap.size w4 w') := Lib.hid (by
          rw [HP.out, if_neg (by simp [he])]
          by_cases hq : 1488 < (putS p.o ++ p.d).size
          · rw [if_pos hq]; exact lay_long p _ ok _ w4 (HOL.out.below HB4.out.1) hq (by omega)
          · rw [if_neg hq]; exact lay_ok p _ ok _ p.code.toNat p.id.toNat w4 (HOL.out.below HB4.out.1) (by omega) (by omega) (by omega) (by omega) (by omega))
        have hcat : ((putS p.o).size : Int) + (p.d.size : Int) ≤ 100010000 := by rw [ByteArray.size_append] at hsz5; omega
        unfold pkV at HL5
        rw [he]
        go_wp2_with (go_at_call 129; refine HL5.out.mono ?_; rintro e w5 ⟨rfl, b5⟩)
        go_ret2
        exact ⟨rfl, HB4.out.1.trans (b5.mono HB4.out.1.size)⟩
      · have dq : decide (putE p.o ≠ 0) = true := by simp [he]
        go_wp2_with fail
        go_ret2
        rw [HP.out, if_pos he]
        exact ⟨rfl, HB4.out.1⟩
    · subst h0
      have HP := Lib.hid (show putPk p = (if putE p.o ≠ 0 then (noB, putE p.o) else if 1488 < (putS p.o ++ p.d).size then (noB, 2) else (layB p.code.toNat p.id.toNat (putS p.o ++ p.d), 0)) from by unfold putPk; rw [hbd]; rfl)
      clear hbd
      go_enter Tryz.func123, Tryz.ntmps123
      go_wp2_with (first
        | (go_at_call 127; refine HN.out.mono ?_; rintro e w2 ⟨rfl, b2⟩
           have hz2 := (b2.block w.heap.size hsz).trans HB.out.2
           have HB2 := Lib.hid (And.intro (HB.out.1.trans (b2.mono hsz1)) hz2)
           have e0 := cellOf hz2 0 _ rfl
           have e1 := cellOf hz2 1 _ rfl
           have e2 := cellOf hz2 2 _ rfl
           have e3 := cellOf hz2 3 _ rfl
           clear b2 hz2)
        | (go_at_call 128; refine (HH.out _).mono ?_; rintro e w3 ⟨rfl, rfl⟩))
      refine (HO.out _ HB2.out.1).mono ?_
      rintro e w4 ⟨rfl, b4⟩
      have hs2 := HB2.out.1.size
      have hlt2 : w.heap.size < w2.heap.size := (Array.getElem?_eq_some_iff.1 HB2.out.2).1
      have hz4 := (b4.block w.heap.size hlt2).trans HB2.out.2
      have HB4 := Lib.hid (And.intro (HB2.out.1.trans (b4.mono hs2)) hz4)
      have c0 := cellOf hz4 0 _ rfl
      have c1 := cellOf hz4 1 _ rfl
      have c2 := cellOf hz4 2 _ rfl
      have c3 := cellOf hz4 3 _ rfl
      clear b4 hz4
      by_cases he : putE p.o = 0
      · have hsz5 : (putS p.o ++ p.d).size ≤ 100010000 := by
          have : (putS p.o).size ≤ 10000 := putS_le p.o
          rw [ByteArray.size_append]; omega
        have HL5 : Hid (Calls Tryz.prog 129 #[pkV p (.slice a1 _ k1), .string (putS p.o ++ p.d)] w4 fun e w' => e = .returned (.tuple #[.string (putPk p).1, .int .i64 (putPk p).2]) ∧ Below w4.heap.size w4 w') := Lib.hid (by
          rw [HP.out, if_neg (by simp [he])]
          by_cases hq : 1488 < (putS p.o ++ p.d).size
          · rw [if_pos hq]; exact lay_long p _ ok _ w4 (HOL.out.below HB4.out.1) hq (by omega)
          · rw [if_neg hq]; exact lay_ok p _ ok _ p.code.toNat p.id.toNat w4 (HOL.out.below HB4.out.1) (by omega) (by omega) (by omega) (by omega) (by omega))
        have hcat : ((putS p.o).size : Int) + (p.d.size : Int) ≤ 100010000 := by rw [ByteArray.size_append] at hsz5; omega
        unfold pkV at HL5
        rw [he]
        go_wp2_with (go_at_call 129; refine HL5.out.mono ?_; rintro e w5 ⟨rfl, b5⟩)
        go_ret2
        exact ⟨rfl, HB4.out.1.trans (b5.mono HB4.out.1.size)⟩
      · have dq : decide (putE p.o ≠ 0) = true := by simp [he]
        go_wp2_with fail
        go_ret2
        rw [HP.out, if_pos he]
        exact ⟨rfl, HB4.out.1⟩
    · subst h0
      have HP := Lib.hid (show putPk p = (noB, 1) from by unfold putPk; rw [hbd]; rfl)
      clear hbd
      go_enter Tryz.func123, Tryz.ntmps123
      go_wp2_with (first
        | (go_at_call 127; refine HN.out.mono ?_; rintro e w2 ⟨rfl, b2⟩
           have hz2 := (b2.block w.heap.size hsz).trans HB.out.2
           have HB2 := Lib.hid (And.intro (HB.out.1.trans (b2.mono hsz1)) hz2)
           have e0 := cellOf hz2 0 _ rfl
           have e1 := cellOf hz2 1 _ rfl
           have e2 := cellOf hz2 2 _ rfl
           have e3 := cellOf hz2 3 _ rfl
           clear b2 hz2)
        | (go_at_call 128; refine (HH.out _).mono ?_; rintro e w3 ⟨rfl, rfl⟩))
      go_ret2
      rw [HP.out]
      exact ⟨rfl, HB2.out.1⟩
    · have dl2 : decide (0 < n) = true := by simpa using h0
      rw [dl2] at hbd
      clear dl2
      have HP := Lib.hid (show putPk p = (noB, 1) from by unfold putPk; rw [hbd]; rfl)
      clear hbd
      go_enter Tryz.func123, Tryz.ntmps123
      go_wp2_with (first
        | (go_at_call 127; refine HN.out.mono ?_; rintro e w2 ⟨rfl, b2⟩
           have hz2 := (b2.block w.heap.size hsz).trans HB.out.2
           have HB2 := Lib.hid (And.intro (HB.out.1.trans (b2.mono hsz1)) hz2)
           have e0 := cellOf hz2 0 _ rfl
           have e1 := cellOf hz2 1 _ rfl
           have e2 := cellOf hz2 2 _ rfl
           have e3 := cellOf hz2 3 _ rfl
           clear b2 hz2)
        | (go_at_call 128; refine (HH.out _).mono ?_; rintro e w3 ⟨rfl, rfl⟩))
      go_ret2
      rw [HP.out]
      exact ⟨rfl, HB2.out.1⟩
    · have dl2 : decide (0 < n) = true := by simpa using h0
      rw [dl2] at hbd
      clear dl2
      have HP := Lib.hid (show putPk p = (noB, 1) from by unfold putPk; rw [hbd]; rfl)
      clear hbd
      go_enter Tryz.func123, Tryz.ntmps123
      go_wp2_with (first
        | (go_at_call 127; refine HN.out.mono ?_; rintro e w2 ⟨rfl, b2⟩
           have hz2 := (b2.block w.heap.size hsz).trans HB.out.2
           have HB2 := Lib.hid (And.intro (HB.out.1.trans (b2.mono hsz1)) hz2)
           have e0 := cellOf hz2 0 _ rfl
           have e1 := cellOf hz2 1 _ rfl
           have e2 := cellOf hz2 2 _ rfl
           have e3 := cellOf hz2 3 _ rfl
           clear b2 hz2)
        | (go_at_call 128; refine (HH.out _).mono ?_; rintro e w3 ⟨rfl, rfl⟩))
      go_ret2
      rw [HP.out]
      exact ⟨rfl, HB2.out.1⟩
    · have dl2 : decide (0 < n) = true := by simpa using h0
      rw [dl2] at hbd
      clear dl2
      have HP := Lib.hid (show putPk p = (if putE p.o ≠ 0 then (noB, putE p.o) else if 1488 < (putS p.o ++ p.d).size then (noB, 2) else (layB p.code.toNat p.id.toNat (putS p.o ++ p.d), 0)) from by unfold putPk; rw [hbd]; rfl)
      clear hbd
      go_enter Tryz.func123, Tryz.ntmps123
      go_wp2_with (first
        | (go_at_call 127; refine HN.out.mono ?_; rintro e w2 ⟨rfl, b2⟩
           have hz2 := (b2.block w.heap.size hsz).trans HB.out.2
           have HB2 := Lib.hid (And.intro (HB.out.1.trans (b2.mono hsz1)) hz2)
           have e0 := cellOf hz2 0 _ rfl
           have e1 := cellOf hz2 1 _ rfl
           have e2 := cellOf hz2 2 _ rfl
           have e3 := cellOf hz2 3 _ rfl
           clear b2 hz2)
        | (go_at_call 128; refine (HH.out _).mono ?_; rintro e w3 ⟨rfl, rfl⟩))
      refine (HO.out _ HB2.out.1).mono ?_
      rintro e w4 ⟨rfl, b4⟩
      have hs2 := HB2.out.1.size
      have hlt2 : w.heap.size < w2.heap.size := (Array.getElem?_eq_some_iff.1 HB2.out.2).1
      have hz4 := (b4.block w.heap.size hlt2).trans HB2.out.2
      have HB4 := Lib.hid (And.intro (HB2.out.1.trans (b4.mono hs2)) hz4)
      have c0 := cellOf hz4 0 _ rfl
      have c1 := cellOf hz4 1 _ rfl
      have c2 := cellOf hz4 2 _ rfl
      have c3 := cellOf hz4 3 _ rfl
      clear b4 hz4
      by_cases he : putE p.o = 0
      · have hsz5 : (putS p.o ++ p.d).size ≤ 100010000 := by
          have : (putS p.o).size ≤ 10000 := putS_le p.o
          rw [ByteArray.size_append]; omega
        have HL5 : Hid (Calls Tryz.prog 129 #[pkV p (.slice a1 _ k1), .string (putS p.o ++ p.d)] w4 fun e w' => e = .returned (.tuple #[.string (putPk p).1, .int .i64 (putPk p).2]) ∧ Below w4.heap.size w4 w') := Lib.hid (by
          rw [HP.out, if_neg (by simp [he])]
          by_cases hq : 1488 < (putS p.o ++ p.d).size
          · rw [if_pos hq]; exact lay_long p _ ok _ w4 (HOL.out.below HB4.out.1) hq (by omega)
          · rw [if_neg hq]; exact lay_ok p _ ok _ p.code.toNat p.id.toNat w4 (HOL.out.below HB4.out.1) (by omega) (by omega) (by omega) (by omega) (by omega))
        have hcat : ((putS p.o).size : Int) + (p.d.size : Int) ≤ 100010000 := by rw [ByteArray.size_append] at hsz5; omega
        unfold pkV at HL5
        rw [he]
        go_wp2_with (go_at_call 129; refine HL5.out.mono ?_; rintro e w5 ⟨rfl, b5⟩)
        go_ret2
        exact ⟨rfl, HB4.out.1.trans (b5.mono HB4.out.1.size)⟩
      · have dq : decide (putE p.o ≠ 0) = true := by simp [he]
        go_wp2_with fail
        go_ret2
        rw [HP.out, if_pos he]
        exact ⟨rfl, HB4.out.1⟩
    · have dl2 : decide (0 < n) = true := by simpa using h0
      rw [dl2] at hbd
      clear dl2
      have HP := Lib.hid (show putPk p = (noB, 1) from by unfold putPk; rw [hbd]; rfl)
      clear hbd
      go_enter Tryz.func123, Tryz.ntmps123
      go_wp2_with (first
        | (go_at_call 127; refine HN.out.mono ?_; rintro e w2 ⟨rfl, b2⟩
           have hz2 := (b2.block w.heap.size hsz).trans HB.out.2
           have HB2 := Lib.hid (And.intro (HB.out.1.trans (b2.mono hsz1)) hz2)
           have e0 := cellOf hz2 0 _ rfl
           have e1 := cellOf hz2 1 _ rfl
           have e2 := cellOf hz2 2 _ rfl
           have e3 := cellOf hz2 3 _ rfl
           clear b2 hz2)
        | (go_at_call 128; refine (HH.out _).mono ?_; rintro e w3 ⟨rfl, rfl⟩))
      go_ret2
      rw [HP.out]
      exact ⟨rfl, HB2.out.1⟩
end Go.Proofs.YthhdackaopaojaaGreat

namespace Go.Proofs.YthhdackaopaojaaGreat
open Go.RowKit Go.Tg Go.Maps

theorem layB_size (c i : Nat) (b : ByteArray) : (layB c i b).size = 4 + b.size := by
  unfold layB
  rw [ByteArray.size_append, ByteArray.size_append]
  have h1 : ∀ x y, (ByteArray.mk #[x, y]).size = 2 := fun _ _ => rfl
  rw [h1, h1]
theorem putPk_size (p : Pk) : (putPk p).1.size ≤ 1492 := by
  have h0 : noB.size = 0 := rfl
  unfold putPk
  repeat' split
  · rw [h0]; omega
  · rw [h0]; omega
  · rw [h0]; omega
  · rename_i h; show (layB _ _ _).size ≤ 1492; rw [layB_size]; omega

/-- What is told of a packet that is rejected. -/
def rejS (p : Pk) : ByteArray := if (putPk p).2 = 0 then (putPk p).1.extract 0 (min ((putPk p).1.size : Int) 1488).toNat else noB

set_option maxHeartbeats 4000000 in
set_option maxRecDepth 100000 in
theorem rejected_any (p : Pk) (po : Value) (ok : Nat → Prop) (w : World) (ho : Opts w ok po p.o) (hl : p.o.length ≤ 1000000) (hv : ∀ o ∈ p.o, o.v.size ≤ 100000) (hd : p.d.size ≤ 100000000) :
    Calls Tryz.prog 118 #[pkV p po] w fun e w' => e = .returned (.string (rejS p)) ∧ Below w.heap.size w w' := by
  obtain ⟨a1, k1, rfl, hk1, hk2⟩ := ho.form
  have hb1 : Below w.heap.size w (w.alloc (.cells #[.int .i64 p.code, .int .i64 p.id, (.slice a1 p.o.length k1), .string p.d] 38 (0, 0))) := (Below.refl _ _).alloc (Nat.le_refl _) _
  have HP := Lib.hid (And.intro (oput_any p _ ok _ (ho.below hb1) hl hv hd) hb1)
  have HR := Lib.hid (show rejS p = (if (putPk p).2 = 0 then (putPk p).1.extract 0 (min ((putPk p).1.size : Int) 1488).toNat else noB) from rfl)
  have hsz := putPk_size p
  unfold pkV at HP ⊢
  clear ho hb1 hv
  generalize putPk p = r at *
  obtain ⟨b, e⟩ := r
  simp only at HP HR hsz
  by_cases he : e = 0
  · have HR2 := Lib.hid (HR.out.trans (if_pos he))
    subst he
    go_enter Tryz.func118, Tryz.ntmps118
    go_wp2_with fail
    refine HP.out.1.mono ?_
    rintro e w2 ⟨rfl, b2⟩
    have HB := Lib.hid (HP.out.2.trans (b2.mono HP.out.2.size))
    clear b2
    go_wp2_with fail
    go_ret
    refine ⟨?_, HB.out⟩
    rw [HR2.out]; rfl
  · go_enter Tryz.func118, Tryz.ntmps118
    go_wp2_with fail
    refine HP.out.1.mono ?_
    rintro e w2 ⟨rfl, b2⟩
    have HB := Lib.hid (HP.out.2.trans (b2.mono HP.out.2.size))
    clear b2
    go_wp2_with fail
    go_ret
    refine ⟨?_, HB.out⟩
    rw [HR.out, if_neg he]; rfl

section
variable {w : World} {S ok : Nat → Prop} {B : NegB} {C : NegC} {st : NSt} {X : NegX} (c : Came) (po pa : Value)

set_option maxHeartbeats 8000000 in
set_option maxRecDepth 100000 in
theorem say11 (h : NegAt w S B C st X) (hc : CameAt w B ok c po pa) (hv : ∀ o ∈ c.p.o, o.v.size ≤ 100000) (hd : c.p.d.size ≤ 100000000) :
    Calls Tryz.prog 104 #[.pointer (some ⟨B.nb, 0, none⟩), .int .i64 11, cameV c po pa] w fun e w' => SayPost w w' S ok B C (sayS rejS C st 11 c) e := by
  obtain ⟨a1, k1, rfl, hk1, hk2⟩ := hc.1.form
  obtain ⟨a2, k2, rfl, hk3, hk4⟩ := hc.2.1.form
  have hb1 : Below w.heap.size w (w.alloc (.cells #[.bool c.is, .int .i64 c.p.code, .int .i64 c.p.id, (.slice a1 c.p.o.length k1), .string c.p.d, .int .i64 c.code, (.slice a2 c.ans.length k2)] 113 (0, 0))) := (Below.refl _ _).alloc (Nat.le_refl _) _
  have hz := at1 w (.cells #[.bool c.is, .int .i64 c.p.code, .int .i64 c.p.id, (.slice a1 c.p.o.length k1), .string c.p.d, .int .i64 c.code, (.slice a2 c.ans.length k2)] 113 (0, 0))
  have hlt : w.heap.size < (w.alloc (.cells #[.bool c.is, .int .i64 c.p.code, .int .i64 c.p.id, (.slice a1 c.p.o.length k1), .string c.p.d, .int .i64 c.code, (.slice a2 c.ans.length k2)] 113 (0, 0))).heap.size := by rw [alloc1]; omega
  have h1 := h.below (hb1.drew)
  have HI := Lib.hid (id_at h1)
  have HS : Hid (∀ W : World, W.heap[w.heap.size]? = some (.cells #[.bool c.is, .int .i64 c.p.code, .int .i64 c.p.id, (.slice a1 c.p.o.length k1), .string c.p.d, .int .i64 c.code, (.slice a2 c.ans.length k2)] 113 (0, 0)) → W.cell? ⟨w.heap.size, 1, none⟩ = some (.int .i64 c.p.code) ∧ W.cell? ⟨w.heap.size, 2, none⟩ = some (.int .i64 c.p.id) ∧ W.cell? ⟨w.heap.size, 3, none⟩ = some (.slice a1 c.p.o.length k1) ∧ W.cell? ⟨w.heap.size, 4, none⟩ = some (.string c.p.d)) := Lib.hid fun W hz =>
    ⟨cellOf hz 1 _ rfl, cellOf hz 2 _ rfl, cellOf hz 3 _ rfl, cellOf hz 4 _ rfl⟩
  have hnl := h.nlt
  have H := Lib.hid (And.intro h (And.intro hb1 (And.intro hz (And.intro hc (And.intro hv hd)))))
  have es : sayS rejS C st 11 c = ({ st with id := nid st.id }, [⟨7, nid st.id, [], rejS c.p⟩]) := rfl
  rw [es]
  obtain ⟨e1, e2, e3, e4⟩ := HS.out _ hz
  unfold cameV
  clear hb1 hz h1 h hc es hv hd
  go_enter Tryz.func104, Tryz.ntmps104
  go_wp2_with fail
  go_region_held3 (fun W => W.cell? ⟨w.heap.size, 1, none⟩ = some (.int .i64 c.p.code) ∧ W.cell? ⟨w.heap.size, 2, none⟩ = some (.int .i64 c.p.id) ∧ W.cell? ⟨w.heap.size, 3, none⟩ = some (.slice a1 c.p.o.length k1) ∧ W.cell? ⟨w.heap.size, 4, none⟩ = some (.string c.p.d))
    (first
      | exact HS.out _ H3.out.2
      | exact HS.out _ H2.out.2.2.1
      | go_keep)
    (first
      | (go_at_call 57; refine HI.out.mono ?_; rintro e w2 ⟨rfl, hn2, hk2⟩
         have hz2 := (hk2.block w.heap.size hlt (by omega)).trans H.out.2.2.1
         have hc2 := (H.out.2.2.2.1.below (H.out.2.1.drew)).keep hk2 (fun b hb => .inl hb)
         have hre := rejected_any c.p _ ok w2 hc2.1 hc2.2.2.2.1 H.out.2.2.2.2.1 H.out.2.2.2.2.2
         unfold pkV at hre
         have H2 := Lib.hid (And.intro hn2 (And.intro hk2 (And.intro hz2 hre)))
         have hlt2 : w.heap.size < w2.heap.size := (Array.getElem?_eq_some_iff.1 hz2).1
         clear hn2 hk2 hz2 hc2 hre)
      | (go_at_call 118; refine H2.out.2.2.2.mono ?_; rintro e w3 ⟨rfl, hb3⟩
         have H3 := Lib.hid (And.intro hb3 ((hb3.block _ hlt2).trans H2.out.2.2.1))
         clear hb3))
  go_wp2_with fail
  go_ret
  have hs0 := H.out.2.1.size
  have hs2 := H2.out.2.1.size
  have hs3 := H3.out.1.size
  have hsd : (w.alloc (.cells #[.bool c.is, .int .i64 c.p.code, .int .i64 c.p.id, (.slice a1 c.p.o.length k1), .string c.p.d, .int .i64 c.code, (.slice a2 c.ans.length k2)] 113 (0, 0))).drew.heap.size = (w.alloc (.cells #[.bool c.is, .int .i64 c.p.code, .int .i64 c.p.id, (.slice a1 c.p.o.length k1), .string c.p.d, .int .i64 c.code, (.slice a2 c.ans.length k2)] 113 (0, 0))).heap.size := rfl
  refine ⟨_, rfl, PksAt.one ⟨7, nid st.id, [], rejS c.p⟩ _ (at1 w3 _) (by omega) (Rec.nil _ _ _), ⟨X, ?_⟩, ?_⟩
  · exact ((H2.out.1.below H3.out.1).below ((Below.refl _ _).alloc (Nat.le_refl _) _)).mono (fun _ h => .inl h)
  · exact (((Keep.of_below _ H.out.2.1.drew).trans H2.out.2.1).trans (Keep.of_below _ H3.out.1)).alloc _
end
end Go.Proofs.YthhdackaopaojaaGreat
