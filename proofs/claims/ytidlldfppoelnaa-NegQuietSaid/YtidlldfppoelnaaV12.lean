import Derived.Test.YtidlldfppoelnaaV11
import Derived.Laws.IdiomStrings
namespace Go.Proofs.Ytidlldfppoelnaa
open Go.RowKit Go.Tg Go.Maps

def optB (o : Opt) : ByteArray := ByteArray.mk #[UInt8.ofNat o.t.toNat, UInt8.ofNat (o.v.size + 2)] ++ o.v
def putB (l : List Opt) : ByteArray := l.foldl (fun b o => b ++ optB o) ⟨#[]⟩
theorem putB_snoc (l : List Opt) (o : Opt) : putB (l ++ [o]) = putB l ++ optB o := by simp [putB]
theorem putB_size_aux : ∀ (l : List Opt) (b : ByteArray), (∀ o ∈ l, o.v.size ≤ 253) → (l.foldl (fun b o => b ++ optB o) b).size ≤ b.size + 255 * l.length := by
  intro l
  induction l with
  | nil => intro b _; simp
  | cons o l ih =>
    intro b h
    have h1 := ih (b ++ optB o) (fun x hx => h x (List.mem_cons_of_mem _ hx))
    have h2 := h o (List.mem_cons_self ..)
    rw [List.foldl_cons, List.length_cons]
    rw [ByteArray.size_append, show (optB o).size = 2 + o.v.size from by unfold optB; rw [ByteArray.size_append]; rfl] at h1
    omega
theorem putB_size (l : List Opt) (h : ∀ o ∈ l, o.v.size ≤ 253) : (putB l).size ≤ 255 * l.length := by
  have := putB_size_aux l ⟨#[]⟩ h
  have e : (ByteArray.mk #[]).size = 0 := rfl
  rw [e, Nat.zero_add] at this
  exact this
/-- What PutOptions tells. -/
def putE (l : List Opt) : Int := if 30 < l.length then 2 else if l.any badO then 1 else 0
def putS (l : List Opt) : ByteArray := if putE l = 0 then putB l else ⟨#[]⟩

set_option maxHeartbeats 4000000 in
set_option maxRecDepth 100000 in
theorem put_any (l : List Opt) (lv : Value) (ok : Nat → Prop) (w : World) (hl : Opts w ok lv l) (hmax : l.length ≤ 1000000) (hv : ∀ o ∈ l, o.v.size ≤ 100000) :
    Calls Try.prog 27 #[lv] w fun e w' => e = .returned (.tuple #[.string (putS l), .int .i64 (putE l)]) ∧ Below w.heap.size w w' := by
  have HC := Lib.hid (containsO_any l lv ok 53 #[] badO w hl hmax (enters_of Try.func53 (by kernel_rfl) rfl) (fun W o ho hW => by
    refine (bad_any o W (hv o ho)).mono ?_
    rintro e w' ⟨rfl, hb⟩
    exact ⟨rfl, hW.trans (hb.mono hW.size)⟩))
  obtain ⟨sa, c, rfl, hc, hm⟩ := hl.form
  have HL := Lib.hid hl
  obtain ⟨len, hln⟩ : ∃ len, len = l.length := ⟨_, rfl⟩
  have HLN := Lib.hid hln
  rw [← hln] at hc hmax HC ⊢
  unfold maxLen at hm
  by_cases h30 : 30 < len
  · have HS := Lib.hid (show putE l = 2 from by unfold putE; rw [if_pos (by omega)])
    have HT := Lib.hid (show putS l = ⟨#[]⟩ from by unfold putS; rw [HS.out]; rfl)
    have hd : decide ((30 : Int) < (len : Int)) = true := by simp; omega
    clear hl hv hln
    go_enter Try.func27, Try.ntmps27
    go_wp2_with fail
    go_ret2
    exact ⟨by rw [HS.out, HT.out]; rfl, Below.refl _ _⟩
  · have hd : decide ((30 : Int) < (len : Int)) = false := by simp; omega
    cases hbad : l.any badO with
    | true =>
      have HS := Lib.hid (show putE l = 1 from by unfold putE; rw [if_neg (by omega), if_pos hbad])
      have HT := Lib.hid (show putS l = ⟨#[]⟩ from by unfold putS; rw [HS.out]; rfl)
      rw [hbad] at HC
      clear hl hv hln hbad
      go_enter Try.func27, Try.ntmps27
      go_wp2_with fail
      refine HC.out.mono ?_
      rintro e w' ⟨rfl, hb⟩
      go_wp2_with fail
      go_ret2
      exact ⟨by rw [HS.out, HT.out]; rfl, hb⟩
    | false =>
      have HS := Lib.hid (show putE l = 0 from by unfold putE; rw [if_neg (by omega), if_neg (by rw [hbad]; decide)])
      have HT := Lib.hid (show putS l = putB l from by unfold putS; rw [HS.out]; rfl)
      rw [hbad] at HC
      have HG : Hid (∀ o ∈ l, 1 ≤ o.t ∧ o.t ≤ 255 ∧ o.v.size ≤ 253) := Lib.hid (by
        intro o ho
        rw [List.any_eq_false] at hbad
        have := hbad o ho
        simp [badO] at this
        omega)
      clear hl hv hln hbad
      go_enter Try.func27, Try.ntmps27
      go_wp2_with fail
      refine HC.out.mono ?_
      rintro e w' ⟨rfl, hb⟩
      have HB := Lib.hid hb
      clear hb
      go_wp2_with fail
      go_loopg [4, 16] len (fun x s i wr => ∃ k : Nat, k ≤ len ∧ x = len - k ∧ i = .int .i64 k ∧ s = .string (putB (l.take k)) ∧ Hid (Below w.heap.size w wr))
      case atStart => exact ⟨0, by omega, by omega, rfl, rfl, HB.out⟩
      case round =>
        obtain ⟨k, hk, rfl, rfl, rfl, hK⟩ := hrel
        have HK := Lib.hid hK.out
        clear hK
        by_cases hkl : k < len
        · have hkl' : k < l.length := by have := HLN.out; omega
          obtain ⟨b, off, rfl, hb, -, -, -, -, c0, c1⟩ := HL.out.at k hkl'
          have d0 : wr.cell? ⟨b, off + k * 2, none⟩ = _ := (HK.out.cell (p := ⟨b, off + k * 2, none⟩) hb).trans c0
          have d1 : wr.cell? ⟨b, off + k * 2 + 1, none⟩ = _ := (HK.out.cell (p := ⟨b, off + k * 2 + 1, none⟩) hb).trans c1
          have hg := HG.out l[k] (List.getElem_mem hkl')
          have hps : (putB (l.take k)).size ≤ 255 * 30 := by
            have := putB_size (l.take k) (fun o ho => (HG.out o (List.mem_of_mem_take ho)).2.2)
            rw [List.length_take] at this
            omega
          have HP := Lib.hid (show putB (l.take (k + 1)) = putB (l.take k) ++ optB l[k] from by rw [List.take_succ_eq_append_getElem hkl', putB_snoc])
          clear c0 c1
          generalize putB (l.take k) = out at *
          generalize l[k] = o at *
          obtain ⟨t, v⟩ := o
          simp only at d0 d1 hg
          obtain ⟨t, rfl⟩ := Int.eq_ofNat_of_zero_le (show (0 : Int) ≤ t by omega)
          simp only [Int.toNat_natCast, optB] at HP
          have hcv : (convert 94 9 (.slice (some ⟨wr.heap.size + 1, 0, none⟩) 2 2)).run Try.prog ((wr.alloc (.cells #[.int .i64 (t : Int), .string v] 46 (0, 0))).alloc (.cells #[.int .u8 (t : Int), .int .u8 ((v.size : Int) + 2)] 5 (0, 0))) =
              .ok (.string (ByteArray.mk #[UInt8.ofNat t, UInt8.ofNat (v.size + 2)])) ((wr.alloc (.cells #[.int .i64 (t : Int), .string v] 46 (0, 0))).alloc (.cells #[.int .u8 (t : Int), .int .u8 ((v.size : Int) + 2)] 5 (0, 0))) := by
            have hx := at21 wr (.cells #[.int .i64 (t : Int), .string v] 46 (0, 0)) (.cells #[.int .u8 (t : Int), .int .u8 ((v.size : Int) + 2)] 5 (0, 0))
            refine run_convert_bytes_back (P := Try.prog) _ 94 9 5 ⟨wr.heap.size + 1, 0, none⟩ 2 [UInt8.ofNat t, UInt8.ofNat (v.size + 2)] Try.underlying94 Try.underlying5 Try.underlying9 (fun j hj => ?_)
            rw [Addr.add_lit, Nat.zero_add]
            have e1 : (UInt8.ofNat t).toNat = t := by rw [UInt8.toNat_ofNat']; omega
            have e2 : (UInt8.ofNat (v.size + 2)).toNat = v.size + 2 := by rw [UInt8.toNat_ofNat']; omega
            match j, hj with
            | 0, _ => simp only [List.getElem_cons_zero]; rw [e1]; exact cellOf hx 0 _ rfl
            | 1, _ => simp only [List.getElem_cons_zero, List.getElem_cons_succ]; rw [e2]; exact cellOf hx 1 _ rfl
          have hs2 : (ByteArray.mk #[UInt8.ofNat t, UInt8.ofNat (v.size + 2)]).size = 2 := rfl
          generalize ByteArray.mk #[UInt8.ofNat t, UInt8.ofNat (v.size + 2)] = hd2 at hcv hs2 HP
          have hs3 : (hd2 ++ v).size = 2 + v.size := by rw [ByteArray.size_append, hs2]
          have HB2 := Lib.hid ((HK.out.alloc HK.out.size (.cells #[.int .i64 (t : Int), .string v] 46 (0, 0))).alloc (by rw [alloc1]; have := HK.out.size; omega) (.cells #[.int .u8 (t : Int), .int .u8 ((v.size : Int) + 2)] 5 (0, 0)))
          go_wp2_with fail
          go_roundg (len - (k + 1))
          case measure => omega
          case rel => exact ⟨k + 1, by omega, rfl, by go_num, by rw [HP.out], HB2.out⟩
        · obtain rfl : len = k := by omega
          have HQ := Lib.hid (show l.take len = l from List.take_of_length_le (by have := HLN.out; omega))
          rw [HQ.out]
          go_wp2_with fail
          go_ret2
          exact ⟨by rw [HS.out, HT.out]; rfl, HK.out⟩
end Go.Proofs.Ytidlldfppoelnaa
