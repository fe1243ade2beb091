import Derived.Test.YtbiaempeegfdkaaGreatRAN
import Derived.Test.YtbiaempeegfdkaaGreatRAL
import Derived.Test.YtbiaempeegfdkaaGreatRAK
import Derived.Test.YtbiaempeegfdkaaGreatRAA
import Derived.Laws.EntriesVeiled
import Derived.Laws.IdiomStrings
import Derived.ChangeKeysEq
import Derived.Laws.Cover3
set_option linter.unusedVariables false
set_option linter.unusedSimpArgs false
set_option maxHeartbeats 16000000
namespace Go.Proofs.YtbiaempeegfdkaaGreat
open Go.RowKit Go.Tg Go.Maps
theorem win_any (n a b : Int) (w : World) : Calls Tryz.prog 84 #[.int .i64 n, .int .i64 a, .int .i64 b] w fun e w' => e = .returned (.bool (decide (a <= n) && decide (n <= b))) /\ w = w' := by
 by_cases h1 : a <= n
 . by_cases h2 : n <= b
   . go_enter Tryz.func84, Tryz.ntmps84
     go_wp2
     go_ret; exact ⟨by simp [h1, h2], rfl⟩
   . go_enter Tryz.func84, Tryz.ntmps84
     go_wp2
     go_ret; exact ⟨by simp; omega, rfl⟩
 . go_enter Tryz.func84, Tryz.ntmps84
   go_wp2
   go_ret; exact ⟨by simp; omega, rfl⟩
def get2 (s : ByteArray) (k : Nat) : Int := if k + 2 <= s.size then valB ((s.data.toList.drop k).take 2) else 0
def get2E (s : ByteArray) (k : Nat) : Int := if k + 2 <= s.size then 0 else 5
theorem get2_bd (s : ByteArray) (k : Nat) : 0 <= get2 s k /\ get2 s k < 65536 := by
 unfold get2
 split
 . have h := valB_lt ((s.data.toList.drop k).take 2) (by rw [List.length_take]; omega); refine ⟨h.1, ?_⟩; have hb := (valB_bd ((s.data.toList.drop k).take 2)).2; have hl : ((s.data.toList.drop k).take 2).length <= 2 := by rw [List.length_take]; omega
   rcases (show ((s.data.toList.drop k).take 2).length = 0 \/ ((s.data.toList.drop k).take 2).length = 1 \/ ((s.data.toList.drop k).take 2).length = 2 by omega) with e | e | e <;> rw [e] at hb <;> omega
 . exact ⟨by omega, by omega⟩
set_option maxRecDepth 100000 in
theorem wget_any (s : ByteArray) (k : Nat) (w : World) (hs : s.size <= 1000000000) (hk : k <= 100) : Calls Tryz.prog 42 #[.string s, .int .i64 (k : Int), .int .i64 2] w fun e w' => e = .returned (.tuple #[.int .i64 (get2 s k), .int .i64 (get2E s k)]) /\ w = w' := by
 have HI := H_ (fun w => win_any 2 1 4 w); have hk0 : decide ((k : Int) < 0) = false := by simp
 by_cases h2 : k + 2 <= s.size
 . have q1 : decide (s.size < k) = false := by simp; omega
   have q2 : decide ((s.size : Int) - (k : Int) < 2) = false := by simp; omega
   have HG := H_ (A_ (show get2 s k = valB ((s.data.toList.drop k).take 2) from if_pos h2) (show get2E s k = 0 from if_pos h2)); have HL := H_ (show s.data.toList.length = s.size by rw [Array.length_toList]; rfl); go_enter Tryz.func42, Tryz.ntmps42; go_wp2_with fail; refine (HI.out _).mono ?_; rintro e w1 ⟨rfl, rfl⟩; go_wp2_with fail
   go_loopg [8, 32] 2 (fun x v i wr => ∃ j : Nat, j <= 2 /\ x = 2 - j /\ i = .int .i64 j /\ v = .int .i64 (valB ((s.data.toList.drop k).take j)) /\ w = wr)
   case atStart => exact ⟨0, by omega, by omega, rfl, rfl, rfl⟩
   case round =>
    obtain ⟨j, hj, rfl, rfl, rfl, rfl⟩ := hrel
    by_cases hlt : j < 2
    . have hkj : k + j < s.size := by omega
      have hdl : ((s.data.toList.drop k)).length = s.size - k := by rw [List.length_drop, HL.out]
      have HB := H_ (valB_snoc ((s.data.toList.drop k).take j) s[k + j])
      have HT := H_ (show (s.data.toList.drop k).take (j + 1) = (s.data.toList.drop k).take j ++ [s[k + j]] by
       rw [List.take_succ_eq_append_getElem (by omega), List.getElem_drop]; rfl)
      have hlt1 := valB_lt ((s.data.toList.drop k).take j) (by rw [List.length_take]; omega)
      have hE : bits .or .i64 (wrap64 (valB ((s.data.toList.drop k).take j) * 256)) (s[k + j].toNat : Int) = valB ((s.data.toList.drop k).take (j + 1)) := by
       rw [HT.out, HB.out]; have h6 : ((s.data.toList.drop k).take j).length <= 6 := by rw [List.length_take]; omega
       have hlt3 := valB_six ((s.data.toList.drop k).take j) h6; obtain ⟨v, hv⟩ := Int.eq_ofNat_of_zero_le hlt1.1; rw [hv] at hlt3 ⊢; rw [show wrap64 ((v : Int) * 256) = (v : Int) * 256 from IntWalk.wrap64_in _ (by omega)]; exact or_byte v s[k + j].toNat (by omega) (by have := s[k + j].toNat_lt; omega)
      have HE := H_ hE; clear hE hlt1 hdl; have hbb : s[k + j].toNat < 256 := s[k + j].toNat_lt; go_wp2_with fail
      go_roundg (2 - (j + 1))
      case measure => omega
      case rel => exact ⟨j + 1, by omega, rfl, by go_num, by rw [HE.out], rfl⟩
    . have q9 : decide ((j : Int) < 2) = false := by simp; omega
      have HJ := H_ (show j = 2 by omega); go_wp2_with fail; go_ret2; exact ⟨by rw [HG.out.1, HG.out.2, HJ.out]; rfl, rfl⟩
 . have HG := H_ (A_ (show get2 s k = 0 from if_neg h2) (show get2E s k = 5 from if_neg h2))
   by_cases h0 : k <= s.size
   . have q1 : decide ((s.size : Int) < (k : Int)) = false := by simp; omega
     have q2 : decide ((s.size : Int) - (k : Int) < 2) = true := by simp; omega
     go_enter Tryz.func42, Tryz.ntmps42; go_wp2_with fail; refine (HI.out _).mono ?_; rintro e w1 ⟨rfl, rfl⟩; go_wp2_with fail
     all_goals (first | (exfalso; omega) | (go_ret2; exact ⟨by rw [HG.out.1, HG.out.2]; rfl, rfl⟩))
   . have q1 : decide ((s.size : Int) < (k : Int)) = true := by simp; omega
     go_enter Tryz.func42, Tryz.ntmps42; go_wp2_with fail; refine (HI.out _).mono ?_; rintro e w1 ⟨rfl, rfl⟩; go_wp2_with fail
     all_goals (first | (exfalso; omega) | (go_ret2; exact ⟨by rw [HG.out.1, HG.out.2]; rfl, rfl⟩))
def isPr (n : Int) : Bool := (decide (0 <= n) && decide (n <= 65535)) && ((bits .and .i64 n 1 == 1) && (bits .and .i64 (n / 256) 1 == 0))
theorem isProto_any (n : Int) (w : World) : Calls Tryz.prog 43 #[.int .i64 n] w fun e w' => e = .returned (.bool (isPr n)) /\ w = w' := by
 have HI := H_ (fun w => win_any n 0 65535 w); obtain ⟨x, hx⟩ : ∃ x, x = (decide (0 <= n) && decide (n <= 65535)) := ⟨_, rfl⟩; have HP := H_ (show isPr n = (x && ((bits .and .i64 n 1 == 1) && (bits .and .i64 (n / 256) 1 == 0))) by rw [hx]; rfl); rw [<- hx] at HI; clear hx; cases x
 . go_enter Tryz.func43, Tryz.ntmps43; go_wp2_with fail; refine (HI.out _).mono ?_; rintro e w1 ⟨rfl, rfl⟩; go_wp2_with fail; go_ret; exact ⟨by rw [HP.out]; rfl, rfl⟩
 . go_enter Tryz.func43, Tryz.ntmps43; go_wp2_with fail; refine (HI.out _).mono ?_; rintro e w1 ⟨rfl, rfl⟩; go_wp2_with fail
   . rename_i h
     go_ret; exact ⟨by rw [HP.out, h]; rfl, rfl⟩
   . rename_i h
     go_ret; have h1 : (bits .and .i64 n 1 == 1) = false := by simpa using h
     exact ⟨by rw [HP.out, h1]; rfl, rfl⟩
def pppS (s : ByteArray) : Int × ByteArray × Int :=
 if get2E s 0 ≠ 0 then (0, noB, 5) else if isPr (get2 s 0) = false then (0, noB, 4) else if 1494 < s.size then (0, noB, 2) else (get2 s 0, s.extract 2 s.size, 0)
theorem pppS_ok {s : ByteArray} (h : get2E s 0 = 0) : pppS s = if isPr (get2 s 0) = false then (0, noB, 4) else if 1494 < s.size then (0, noB, 2) else (get2 s 0, s.extract 2 s.size, 0) := by
 unfold pppS; rw [h, if_neg (by decide)]
set_option maxRecDepth 100000 in
theorem getPpp_any (s : ByteArray) (w : World) (hs : s.size <= 1000000000) : Calls Tryz.prog 20 #[.string s] w fun e w' => e = .returned (.tuple #[.int .i64 (pppS s).1, .string (pppS s).2.1, .int .i64 (pppS s).2.2]) /\ Below w.heap.size w w' := by
 have HG := H_ (fun w => wget_any s 0 w hs (by decide))
 by_cases h2 : 0 + 2 <= s.size
 . have e0 : get2E s 0 = 0 := if_pos h2; have HP := H_ (pppS_ok e0); rw [e0] at HG; have HI := H_ (fun w => isProto_any (get2 s 0) w); clear e0; generalize get2 s 0 = p at *; obtain ⟨x, hx⟩ : ∃ x, x = isPr p := ⟨_, rfl⟩; rw [<- hx] at HI HP; clear hx; cases x
   . go_enter Tryz.func20, Tryz.ntmps20; go_wp2_with fail; refine (HG.out _).mono ?_; rintro e w1 ⟨rfl, rfl⟩; go_wp2_with fail; refine (HI.out _).mono ?_; rintro e w1 ⟨rfl, rfl⟩; go_wp2_with fail; refine bodyPost_ret (v := .tuple #[.int .i64 0, .string ⟨#[]⟩, .int .i64 4]) (by simp [results, Tryz.results20, go_sem]) rfl ?_; rw [HP.out]; exact ⟨rfl, Below.refl _ _⟩
   . by_cases h3 : 1494 < s.size
     . have q1 : decide ((1492 : Int) < (s.size : Int) - 2) = true := by simp; omega
       go_enter Tryz.func20, Tryz.ntmps20; go_wp2_with fail; refine (HG.out _).mono ?_; rintro e w1 ⟨rfl, rfl⟩; go_wp2_with fail; refine (HI.out _).mono ?_; rintro e w1 ⟨rfl, rfl⟩; go_wp2_with fail; refine bodyPost_ret (v := .tuple #[.int .i64 0, .string ⟨#[]⟩, .int .i64 2]) (by simp [results, Tryz.results20, go_sem]) rfl ?_; rw [HP.out, if_neg (by decide), if_pos h3]; exact ⟨rfl, Below.refl _ _⟩
     . have q1 : decide ((1492 : Int) < (s.size : Int) - 2) = false := by simp; omega
       have h22 : 2 <= s.size := by omega
       have HC := H_ (fun w => sclone_any (s.extract 2 s.size) w (by rw [ByteArray.size_extract]; omega)); go_enter Tryz.func20, Tryz.ntmps20; go_wp2_with fail; refine (HG.out _).mono ?_; rintro e w1 ⟨rfl, rfl⟩; go_wp2_with fail; refine (HI.out _).mono ?_; rintro e w1 ⟨rfl, rfl⟩; go_wp2_with fail; refine (HC.out _).mono ?_; rintro e w1 ⟨rfl, hb⟩; go_wp2_with fail; refine bodyPost_ret (v := .tuple #[.int .i64 p, .string (s.extract 2 s.size), .int .i64 0]) (by simp [results, Tryz.results20, go_sem]) rfl ?_; rw [HP.out, if_neg (by decide), if_neg h3]; exact ⟨rfl, hb⟩
 . have e0 : get2E s 0 = 5 := if_neg h2; have HP := H_ (show pppS s = (0, noB, 5) by unfold pppS; rw [e0, if_pos (by decide)]); rw [e0] at HG; go_enter Tryz.func20, Tryz.ntmps20; go_wp2_with fail; refine (HG.out _).mono ?_; rintro e w1 ⟨rfl, rfl⟩; go_wp2_with fail; refine bodyPost_ret (v := .tuple #[.int .i64 0, .string ⟨#[]⟩, .int .i64 5]) (by simp [results, Tryz.results20, go_sem]) rfl ?_; rw [HP.out]; exact ⟨rfl, Below.refl _ _⟩
def strL (l : List ByteArray) : List (List Value) := l.map fun s => [.string s]
theorem strL_app (a b : List ByteArray) : (strL (a ++ b)).flatten = (strL a).flatten ++ (strL b).flatten := by simp [strL]
def SRow (w : World) (B : Nat) (v : Value) (l : List ByteArray) : Prop := w.ownsRow B 9 1 v l.length (strL l).flatten
theorem SRow.nil (w : World) (B : Nat) : SRow w B (.slice none 0 0) [] := World.ownsRow_nil _ _ _ _
theorem SRow.keep {w w' : World} {B : Nat} {v : Value} {l : List ByteArray} {T : Nat -> Prop} (h : SRow w B v l) (hk : Keep T w w') (hT : ∀ k, v.ownBlock = some k -> ¬ T k) : SRow w' B v l := by
 obtain ⟨h0, h | ⟨g, cap, cur, hv, h1, h2, h3⟩⟩ := h
 . exact ⟨h0, Or.inl h⟩
 . have hlt := (Array.getElem?_eq_some_iff.1 h2).1; exact ⟨h0, Or.inr ⟨g, cap, cur, hv, h1, (hk.block g hlt (hT g (by rw [hv]; rfl))).trans h2, h3⟩⟩
theorem SRow.below {w w' : World} {B : Nat} {v : Value} {l : List ByteArray} (h : SRow w B v l) (hb : Below w.heap.size w w') : SRow w' B v l := h.keep (Keep.of_below (fun _ => False) hb) (fun _ _ h => h)
theorem SRow.lt {w : World} {B : Nat} {v : Value} {l : List ByteArray} (h : SRow w B v l) : ∀ k, v.ownBlock = some k -> k < w.heap.size /\ B <= k := by
 intro k hk; have := World.ownsRow.lt h k hk; exact ⟨this.2, this.1⟩
theorem SRow.form {w : World} {B : Nat} {v : Value} {l : List ByteArray} (h : SRow w B v l) : ∃ sa sc, v = .slice sa l.length sc := by
 obtain ⟨_, ⟨h, hn⟩ | ⟨g, cp, cur, hv, _⟩⟩ := h
 . exact ⟨none, 0, by rw [h, hn]⟩
 . exact ⟨_, _, hv⟩
theorem str_info : ∃ i z, Tryz.prog.info? 9 = some i /\ i.zero = some z /\ i.size = 1 /\ i.bytes = 16 /\ z.cells.size = 1 := by
 have h : (Tryz.prog.info? 9).map (fun i => (i.zero, i.size, i.bytes)) = some (some (.string ⟨#[]⟩), 1, 16) := by kernel_rfl
 obtain ⟨i, hi, he⟩ := Option.map_eq_some_iff.1 h; simp only [Prod.mk.injEq] at he; exact ⟨i, _, hi, he.1, he.2.1, he.2.2, rfl⟩
theorem wpl_append_str {B : Nat} {w : World} {ops : Array Oper} {rest : List Oper} {o : Oper} {a : Act} {Q : Exit -> Act -> World -> Prop} (hgd : o.guard = none) (s x : Operand)
 (ho : o.op = .call { callee := .builtin .append, args := #[s, x], argTypes := #[35, 35] }) (v : Value) (l : List ByteArray) (hs : a.eval s = v) (hown : SRow w B v l)
 (bx c : Nat) (d : ByteArray) (hx : a.eval x = .slice (some ⟨bx, 0, none⟩) 1 c) (hb : w.heap[bx]? = some (.cells #[.string d] 9 (0, 0))) (hlen : l.length <= 1000000) (hW : B <= w.heap.size)
 (h : ∀ g cap w', SRow w' B (.slice (some ⟨g, 0, none⟩) (l.length + 1) cap) (l ++ [d]) -> Keep (fun k => v.ownBlock = some k) w w' -> (v.ownBlock = some g \/ g = w.heap.size) -> wpList Tryz.prog ops Q rest (a.put o.dst (.slice (some ⟨g, 0, none⟩) (l.length + 1) cap)) w') : wpList Tryz.prog ops Q (o :: rest) a w := by
 obtain ⟨i, z, hi, hz, hsz, hby, hzs⟩ := str_info
 refine wpList_append_lies (P := Tryz.prog) (w := w) hgd s x 35 ho B 9 i z 1 16 Tryz.underlying35 hi hz hsz hby hzs (by decide) v l.length (strL l).flatten hs hown ⟨bx, 0, none⟩ 1 c [.string d] hx rfl
  (World.news_of_block hb) (by intro u hu; simp only [List.mem_singleton] at hu; subst hu; rfl) (by decide) (by unfold maxLen; omega) (by omega) hW w.heap.size rfl ?_
 intro g cap w' h1 h2 h3 _; exact h g cap w' (by unfold SRow; rw [List.length_append, strL_app]; exact h1) (keep_of_grown h2) h3
def pppB (proto : Nat) (d : ByteArray) : ByteArray := ByteArray.mk #[UInt8.ofNat (proto / 256), UInt8.ofNat proto] ++ d
theorem two_any (v : Nat) (w : World) (hv : v < 65536) : Calls Tryz.prog 55 #[.int .i64 (v : Int)] w fun e w' => e = .returned (.string ⟨#[UInt8.ofNat (v / 256), UInt8.ofNat v]⟩) /\ Below w.heap.size w w' := by
 have HW := H_ (fun w => wput_any v w hv); clear hv; generalize (⟨#[UInt8.ofNat (v / 256), UInt8.ofNat v]⟩ : ByteArray) = s at *; go_enter Tryz.func55, Tryz.ntmps55; go_wp2_with fail; refine (HW.out _).mono ?_; rintro e w1 ⟨rfl, hb⟩; go_wp2_with fail; go_ret; exact ⟨rfl, hb⟩
theorem putPpp_any (proto : Nat) (d : ByteArray) (w : World) (hp : proto < 65536) (hpr : isPr (proto : Int) = true) (hd : d.size <= 1492) :
 Calls Tryz.prog 25 #[.int .i64 (proto : Int), .string d] w fun e w' => e = .returned (.tuple #[.string (pppB proto d), .int .i64 0]) /\ Below w.heap.size w w' := by
 have HI := H_ (fun w => isProto_any (proto : Int) w); rw [hpr] at HI; have HT := H_ (fun w => two_any proto w hp); have HS := H_ (show pppB proto d = ⟨#[UInt8.ofNat (proto / 256), UInt8.ofNat proto]⟩ ++ d from rfl); have q1 : decide ((1492 : Int) < (d.size : Int)) = false := by simp; omega
 have hsz : (⟨#[UInt8.ofNat (proto / 256), UInt8.ofNat proto]⟩ : ByteArray).size = 2 := rfl; have hlim : ¬ 9223372036854775807 < (⟨#[UInt8.ofNat (proto / 256), UInt8.ofNat proto]⟩ : ByteArray).size + d.size := by rw [hsz]; omega
 clear hp hpr hsz; generalize (⟨#[UInt8.ofNat (proto / 256), UInt8.ofNat proto]⟩ : ByteArray) = t at *; go_enter Tryz.func25, Tryz.ntmps25; go_wp2_with fail; refine (HI.out _).mono ?_; rintro e w1 ⟨rfl, rfl⟩; go_wp2_with fail; refine (HT.out _).mono ?_; rintro e w1 ⟨rfl, hb⟩; go_wp2_with fail; go_ret2; rw [HS.out]; exact ⟨rfl, hb⟩
theorem isData_any (n : Int) (w : World) (h1 : n ≠ 49187) (h2 : n ≠ 49699) : Calls Tryz.prog 64 #[.int .i64 n] w fun e w' => e = .returned (.bool false) /\ w = w' := by
 have e1 : (n == 49187) = false := by simpa using h1
 have e2 : (n == 49699) = false := by simpa using h2
 go_enter Tryz.func64, Tryz.ntmps64; go_wp2_with fail; go_ret; exact ⟨rfl, rfl⟩
theorem putOf_any (n : Int) (p : Pk) (po : Value) (ok : Nat -> Prop) (w : World) (h1 : n ≠ 49187) (h2 : n ≠ 49699) (ho : Opts w ok po p.o) (hl : p.o.length <= 1000000) (hv : ∀ o ∈ p.o, o.v.size <= 100000) (hd : p.d.size <= 100000000) :
 Calls Tryz.prog 59 #[.int .i64 n, pkV p po] w fun e w' => e = .returned (.tuple #[.string (putPk p).1, .int .i64 (putPk p).2]) /\ Below w.heap.size w w' := by
 obtain ⟨sa, c, rfl, -, -⟩ := ho.form; have hb := (Below.refl w.heap.size w).alloc (Nat.le_refl _) (.cells #[.int .i64 p.code, .int .i64 p.id, (.slice sa p.o.length c), .string p.d] 59 (0, 0)); have HP := H_ (oput_any p (.slice sa p.o.length c) ok _ (ho.below hb) hl hv hd); have HD := H_ (fun w => isData_any n w h1 h2); have HB := H_ hb; clear ho hl hv hd hb h1 h2; unfold pkV at HP ⊢; generalize (putPk p).1 = s at *; generalize (putPk p).2 = z at *; go_enter Tryz.func59, Tryz.ntmps59; go_wp2_with fail; refine (HD.out _).mono ?_; rintro e w1 ⟨rfl, rfl⟩; go_wp2_with fail; refine HP.out.mono ?_; rintro e w1 ⟨rfl, hb⟩; go_wp2_with fail; go_ret2; exact ⟨rfl, HB.out.trans (hb.mono HB.out.size)⟩
def frS (proto : Nat) (l : List Pk) : List ByteArray := l.filterMap fun p => if (putPk p).2 = 0 then some (pppB proto (putPk p).1) else none
def eqB (a b : Opt) : Bool := decide (a.t = b.t) && decide (a.v = b.v)
theorem ktK : Tryz.prog.keyTypeAt 3 162 = true := by kernel_rfl
theorem szK : decide (162 < Tryz.prog.types.size) = true := by kernel_rfl
theorem wdK : (match Tryz.prog.underlying 162 with | some (.array _ _) | some (.struct _) => true | _ => false) = true := by kernel_rfl
set_option maxRecDepth 100000 in
theorem keyedK : Keyed Tryz.prog 162 := Keyed.of_law (deep_law_laid laidOut (m := 3) (by omega) (of_decide_eq_true szK) ktK wdK)
def kindV (p : Int) : Value := .agg #[.int .i64 p, .bool true]
theorem kvK (a : Int) (ha : I64 a) : KV Tryz.prog 162 (kindV a) := by
 unfold KV kindV; have ha' : (Lit.int .i64 a).wf = true := by first | exact ha | (unfold I64 at ha; simp [Lit.wf, IntKind.min, IntKind.max, IntKind.signed, IntKind.bits]; omega)
 have h1 : Tryz.prog.keyType 162 = true := by kernel_rfl
 have h3 : (Value.agg #[Value.int .i64 a, Value.bool true]).formed Tryz.prog 162 = true := by kernel_rfl
 have h2 : (Tryz.prog.keyLits (Tryz.prog.types.size + 1) 162 (Value.agg #[Value.int .i64 a, Value.bool true]).cells.toList) = some [.int .i64 a, .bool true] := by
  obtain ⟨d, hd⟩ : ∃ d, Tryz.prog.types.size + 1 = d + 2 := ⟨Tryz.prog.types.size - 1, by kernel_rfl⟩; have c48 : Tryz.prog.cellsOf 162 = 2 := by kernel_rfl
  have c3 : Tryz.prog.cellsOf 3 = 1 := by kernel_rfl
  have c4 : Tryz.prog.cellsOf 4 = 1 := by kernel_rfl
  have cs : (Value.agg #[Value.int .i64 a, Value.bool true]).cells.toList = [Value.int .i64 a, Value.bool true] := rfl; rw [hd, cs]; generalize hwa : (Lit.int .i64 a).wf = wa at ha'; subst ha'; simp [Program.keyLits, Tryz.underlying162, Tryz.underlying3, Tryz.underlying4, c48, c3, c4, hwa]
 simp only [keyOf, Tryz.underlying162, h1, h2, h3]; exact ⟨_, rfl⟩
def papB : ByteArray := ⟨#[192, 35]⟩
def chapB : ByteArray := ⟨#[194, 35, 5]⟩
def noS : ByteArray := ⟨#[]⟩
def lvalS (p : Int) : ByteArray := if p = 49187 then papB else if p = 49699 then chapB else noS
theorem kindV_inj {a b : Int} (h : kindV a = kindV b) : a = b := by
 unfold kindV at h
 simpa using h
set_option maxRecDepth 100000 in
theorem lvalue_any (p : Int) (w : World) (hp : I64 p) : Calls Tryz.prog 87 #[.int .i64 p] w fun e w' => e = .returned (.string (lvalS p)) /\ Below w.heap.size w w' := by
 have hmm := @run_makeMap Tryz.prog; have hz : ∀ w, (zeroValue 9).run Tryz.prog w = .ok (.string noS) w := fun w => by kernel_rfl
 have hb1 : ∀ w, (Instr.build 162 #[(0, .int .i64 49187), (1, .bool true)]).run Tryz.prog w = .ok (kindV 49187) w := fun w => by kernel_rfl
 have hb2 : ∀ w, (Instr.build 162 #[(0, .int .i64 49699), (1, .bool true)]).run Tryz.prog w = .ok (kindV 49699) w := fun w => by kernel_rfl
 have hb3 : ∀ w, (Instr.build 162 #[(0, .int .i64 p), (1, .bool true)]).run Tryz.prog w = .ok (kindV p) w := fun w => by kernel_rfl
 have i1 : I64 49187 := by unfold I64; decide
 have i2 : I64 49699 := by unfold I64; decide
 have hm0 : MapAt Tryz.prog 162 ((w.alloc (.map #[] 0)).drew) w.heap.size (fun _ => none) := MapAt.empty w.drew; obtain ⟨ea, ca, ua, ma⟩ := hm0.run_update keyedK Tryz.underlying163 (kvK 49187 i1) (.string papB); obtain ⟨eb, cb, ub, mb⟩ := ma.run_update keyedK Tryz.underlying163 (kvK 49699 i2) (.string chapB); have la := mb.run_lookup keyedK Tryz.underlying163 (kvK p hp) (hz _) false; obtain ⟨ed, cd, ud, md⟩ := hm0.run_update keyedK Tryz.underlying163 (kvK 49699 i2) (.string chapB); obtain ⟨ee, ce, ue, me⟩ := md.run_update keyedK Tryz.underlying163 (kvK 49187 i1) (.string papB); have lb := me.run_lookup keyedK Tryz.underlying163 (kvK p hp) (hz _) false; have h12 : kindV 49187 ≠ kindV 49699 := fun h => absurd (kindV_inj h) (by decide)
 have ra : ((upd (upd (fun _ => none) (kindV 49187) (.string papB)) (kindV 49699) (.string chapB)) (kindV p)).getD (.string noS) = .string (lvalS p) := by
  unfold lvalS
  by_cases h1 : p = 49187
  . subst h1; rw [upd_other _ _ h12, upd_same]; rfl
  . by_cases h2 : p = 49699
    . subst h2; rw [upd_same]; rfl
    . rw [upd_other _ _ (fun h => h2 (kindV_inj h)), upd_other _ _ (fun h => h1 (kindV_inj h)), if_neg h1, if_neg h2]; rfl
 have rb : ((upd (upd (fun _ => none) (kindV 49699) (.string chapB)) (kindV 49187) (.string papB)) (kindV p)).getD (.string noS) = .string (lvalS p) := by
  unfold lvalS
  by_cases h1 : p = 49187
  . subst h1; rw [upd_same]; rfl
  . by_cases h2 : p = 49699
    . subst h2; rw [upd_other _ _ (fun h => h12 h.symm), upd_same]; rfl
    . rw [upd_other _ _ (fun h => h1 (kindV_inj h)), upd_other _ _ (fun h => h2 (kindV_inj h)), if_neg h1, if_neg h2]; rfl
 simp only [Bool.false_eq_true, if_false] at la lb; rw [ra] at la; rw [rb] at lb; have hk0 : Below w.heap.size w ((w.alloc (.map #[] 0)).drew) := ((Below.refl w.heap.size w).alloc (Nat.le_refl _) (.map #[] 0)).drew
 have kk : ∀ (W : World) (o : Obj), Below w.heap.size w W -> Below w.heap.size w (ChangeMaps.setBlock W w.heap.size o) := fun W o hW =>
  hW.trans (((Keep.refl (· = w.heap.size) W).setBlock w.heap.size (Or.inr rfl) o).below hW.size (fun k hk e => by omega))
 have HB := H_ (A_ (kk _ (.map eb cb) (kk _ (.map ea ca) hk0)) (kk _ (.map ee ce) (kk _ (.map ed cd) hk0))); clear kk hk0 hm0 ma mb md me ra rb h12 hz; generalize hS1 : ChangeMaps.setBlock ((w.alloc (.map #[] 0)).drew) w.heap.size (.map ea ca) = S1 at *; generalize hS2 : ChangeMaps.setBlock S1 w.heap.size (.map eb cb) = S2 at *; generalize hS3 : ChangeMaps.setBlock ((w.alloc (.map #[] 0)).drew) w.heap.size (.map ed cd) = S3 at *; generalize hS4 : ChangeMaps.setBlock S3 w.heap.size (.map ee ce) = S4 at *; clear hS1 hS2 hS3 hS4; unfold papB at ua ue; unfold chapB at ub ud; unfold kindV at ua ub ud ue la lb hb1 hb2 hb3; generalize lvalS p = vp at *; go_enter Tryz.func87, Tryz.ntmps87; go_wp2_with fail; refine wp_region_H (rgH 0 0) (fun _ => True) (by kernel_rfl) ?_; refine hatP 1 rfl (by intro W _; go_simp; try rfl) ?_; simp only [aZ, aC, aD]; refine hatP 3 rfl (by intro W _; go_simp; try rfl) ?_; simp only [aZ, aC, aD]; refine hatP 6 rfl (by intro W _; go_simp; try rfl) ?_; simp only [aZ, aC, aD]; refine hatP 7 rfl (by intro W _; go_simp; try rfl) ?_; simp only [aZ, aC, aD]; refine hone 0 rfl fun K hK => ?_
 try go_simp
 refine hK _ _ (fun _ => trivial) ?_
 try simp only [aZ, aA, aE, aB, aC, aD]
 refine wpAnyH_2 2 4 rfl rfl (by kernel_rfl) ?_ ?_
 . intro K hK; rw [if_pos (by rfl)]; go_simp; refine hK _ _ (fun _ => trivial) ?_
   try simp only [aZ, aA, aE, aB, aC, aD]
   refine hone 4 rfl fun K hK => ?_
   try go_simp
   refine hK _ _ (fun _ => trivial) ?_
   try simp only [aZ, aA, aE, aB, aC, aD]
   refine hone 5 rfl fun K hK => ?_
   try go_simp
   refine hK _ _ (fun _ => trivial) ?_
   try simp only [aZ, aA, aE, aB, aC, aD]
   refine hone 8 rfl fun K hK => ?_
   try go_simp
   refine hK _ _ (fun _ => trivial) ?_
   try simp only [aZ, aA, aE, aB, aC, aD]
   refine hend 9 ?_; simp only [aF, aG]; go_wp2_with fail; go_ret; exact ⟨rfl, HB.out.1⟩
 . intro K hK; rw [if_pos (by rfl)]; go_simp; refine hK _ _ (fun _ => trivial) ?_
   try simp only [aZ, aA, aE, aB, aC, aD]
   refine hone 2 rfl fun K hK => ?_
   try go_simp
   refine hK _ _ (fun _ => trivial) ?_
   try simp only [aZ, aA, aE, aB, aC, aD]
   refine hone 5 rfl fun K hK => ?_
   try go_simp
   refine hK _ _ (fun _ => trivial) ?_
   try simp only [aZ, aA, aE, aB, aC, aD]
   refine hone 8 rfl fun K hK => ?_
   try go_simp
   refine hK _ _ (fun _ => trivial) ?_
   try simp only [aZ, aA, aE, aB, aC, aD]
   refine hend 9 ?_; simp only [aF, aG]; go_wp2_with fail; go_ret; exact ⟨rfl, HB.out.2⟩
def be2 (v : Nat) : ByteArray := ⟨#[UInt8.ofNat (v / 256), UInt8.ofNat v]⟩
def be4 (v : Nat) : ByteArray := ⟨#[UInt8.ofNat (v / 16777216), UInt8.ofNat (v / 65536), UInt8.ofNat (v / 256), UInt8.ofNat v]⟩
set_option maxRecDepth 100000 in
theorem lput2_any (v : Nat) (w : World) (hv : v < 65536) :
 Calls Tryz.prog 72 #[.int .i64 (v : Int), .int .i64 2] w fun e w' => e = .returned (.string (be2 v)) /\ Below w.heap.size w w' := by
 have hmk : ∀ w, (Instr.makeSlice 66 (.int .i64 2) (.int .i64 2)).run Tryz.prog w = .ok (.slice (some ⟨w.heap.size, 0, none⟩) 2 2) (w.alloc (.cells #[.int .u8 0, .int .u8 0] 5 (0, 0))) := fun w => by kernel_rfl
 have hcv : (convert 66 9 (.slice (some ⟨w.heap.size, 0, none⟩) 2 2)).run Tryz.prog (w.alloc (.cells #[.int .u8 ((v : Int) / 256), .int .u8 ((v : Int) % 256)] 5 (0, 0))) = .ok (.string (be2 v)) (w.alloc (.cells #[.int .u8 ((v : Int) / 256), .int .u8 ((v : Int) % 256)] 5 (0, 0))) := by
  have hx := at1 w (.cells #[.int .u8 ((v : Int) / 256), .int .u8 ((v : Int) % 256)] 5 (0, 0)); refine run_convert_bytes_back (P := Tryz.prog) _ 66 9 5 ⟨w.heap.size, 0, none⟩ 2 [UInt8.ofNat (v / 256), UInt8.ofNat v] Tryz.underlying66 Tryz.underlying5 Tryz.underlying9 (fun j hj => ?_); rw [Addr.add_lit, Nat.zero_add]; have e1 : (UInt8.ofNat (v / 256)).toNat = v / 256 := by rw [UInt8.toNat_ofNat']; omega
  have e2 : (UInt8.ofNat v).toNat = v % 256 := by rw [UInt8.toNat_ofNat']
  match j, hj with
  | 0, _ => simp only [List.getElem_cons_zero]; rw [e1]; exact cellOf hx 0 _ (by simp)
  | 1, _ => simp only [List.getElem_cons_zero, List.getElem_cons_succ]; rw [e2]; exact cellOf hx 1 _ (by simp)
 go_enter Tryz.func72, Tryz.ntmps72; go_wp2_with fail; refine wp_loop_rounds 3 ?_; rw [rounds_succ]; go_wp2_with fail; rw [rounds_succ]; go_wp2_with fail; rw [rounds_succ]; go_wp2_with fail; go_ret; exact ⟨rfl, (Below.refl _ _).alloc (Nat.le_refl _) _⟩
set_option maxRecDepth 100000 in
theorem lput4_any (v : Nat) (w : World) (hv : v < 4294967296) :
 Calls Tryz.prog 72 #[.int .i64 (v : Int), .int .i64 4] w fun e w' => e = .returned (.string (be4 v)) /\ Below w.heap.size w w' := by
 have hmk : ∀ w, (Instr.makeSlice 66 (.int .i64 4) (.int .i64 4)).run Tryz.prog w = .ok (.slice (some ⟨w.heap.size, 0, none⟩) 4 4) (w.alloc (.cells #[.int .u8 0, .int .u8 0, .int .u8 0, .int .u8 0] 5 (0, 0))) := fun w => by kernel_rfl
 have hcv : (convert 66 9 (.slice (some ⟨w.heap.size, 0, none⟩) 4 4)).run Tryz.prog (w.alloc (.cells #[.int .u8 ((v : Int) / 16777216), .int .u8 ((v : Int) / 65536 % 256), .int .u8 ((v : Int) / 256 % 256), .int .u8 ((v : Int) % 256)] 5 (0, 0))) = .ok (.string (be4 v)) (w.alloc (.cells #[.int .u8 ((v : Int) / 16777216), .int .u8 ((v : Int) / 65536 % 256), .int .u8 ((v : Int) / 256 % 256), .int .u8 ((v : Int) % 256)] 5 (0, 0))) := by
  have hx := at1 w (.cells #[.int .u8 ((v : Int) / 16777216), .int .u8 ((v : Int) / 65536 % 256), .int .u8 ((v : Int) / 256 % 256), .int .u8 ((v : Int) % 256)] 5 (0, 0)); refine run_convert_bytes_back (P := Tryz.prog) _ 66 9 5 ⟨w.heap.size, 0, none⟩ 4 [UInt8.ofNat (v / 16777216), UInt8.ofNat (v / 65536), UInt8.ofNat (v / 256), UInt8.ofNat v] Tryz.underlying66 Tryz.underlying5 Tryz.underlying9 (fun j hj => ?_); rw [Addr.add_lit, Nat.zero_add]
  match j, hj with
  | 0, _ => simp only [List.getElem_cons_zero]; rw [show (UInt8.ofNat (v / 16777216)).toNat = v / 16777216 by rw [UInt8.toNat_ofNat']; omega]; exact cellOf hx 0 _ (by simp)
  | 1, _ => simp only [List.getElem_cons_zero, List.getElem_cons_succ]; rw [UInt8.toNat_ofNat']; exact cellOf hx 1 _ (by simp)
  | 2, _ => simp only [List.getElem_cons_zero, List.getElem_cons_succ]; rw [UInt8.toNat_ofNat']; exact cellOf hx 2 _ (by simp)
  | 3, _ => simp only [List.getElem_cons_zero, List.getElem_cons_succ]; rw [UInt8.toNat_ofNat']; exact cellOf hx 3 _ (by simp)
 go_enter Tryz.func72, Tryz.ntmps72; go_wp2_with fail; refine wp_loop_rounds 5 ?_; rw [rounds_succ]; go_wp2_with fail; rw [rounds_succ]; go_wp2_with fail; rw [rounds_succ]; go_wp2_with fail; rw [rounds_succ]; go_wp2_with fail; rw [rounds_succ]; go_wp2_with fail; go_ret; exact ⟨rfl, (Below.refl _ _).alloc (Nat.le_refl _) _⟩
theorem lin_any (n a b : Int) (w : World) : Calls Tryz.prog 71 #[.int .i64 n, .int .i64 a, .int .i64 b] w fun e w' => e = .returned (.bool (decide (a <= n) && decide (n <= b))) /\ w = w' := by
 by_cases h1 : a <= n
 . have d1 : decide (a <= n) = true := by simpa using h1
   rw [d1]; go_enter Tryz.func71, Tryz.ntmps71
   go_wp2
   go_ret; exact ⟨by simp, rfl⟩
 . have d1 : decide (a <= n) = false := by simpa using h1
   rw [d1]; go_enter Tryz.func71, Tryz.ntmps71
   go_wp2
   go_ret; exact ⟨by simp, rfl⟩
def unitR (most : Int) : Rl := ⟨1, 2, 64, most, be2 1492⟩
def magicR : Rl := ⟨5, 4, 1, 4294967295, be4 1⟩
theorem units_any (m : Int) (w : World) : Calls Tryz.prog 90 #[.int .i64 m] w fun e w' => e = .returned (.agg #[.int .i64 1, .int .i64 2, .int .i64 64, .int .i64 m, .string (be2 1492)]) /\ Below w.heap.size w w' := by
 have h := lput2_any 1492 (w.alloc (.cells #[.int .i64 0, .int .i64 0, .int .i64 0, .int .i64 0, .string ⟨#[]⟩] 136 (0, 0))) (by decide); have HP := H_ h; clear h; have hX := at1 w (.cells #[.int .i64 0, .int .i64 0, .int .i64 0, .int .i64 0, .string ⟨#[]⟩] 136 (0, 0)); have HX := H_ (A_ hX (A_ (alloc1 w (.cells #[.int .i64 0, .int .i64 0, .int .i64 0, .int .i64 0, .string ⟨#[]⟩] 136 (0, 0))) ((Below.refl w.heap.size w).alloc (Nat.le_refl _) (.cells #[.int .i64 0, .int .i64 0, .int .i64 0, .int .i64 0, .string ⟨#[]⟩] 136 (0, 0))))); clear hX; go_enter Tryz.func90, Tryz.ntmps90; go_wp2_with fail; refine HP.out.mono ?_; rintro e w1 ⟨rfl, hb⟩; have hx := (hb.block w.heap.size (by rw [HX.out.2.1]; omega)).trans HX.out.1; have HX1 := H_ (A_ hx (HX.out.2.2.trans (hb.mono (by rw [HX.out.2.1]; omega)))); have z := fun o => fzOf hx o; have y0 : w1.cell? ⟨w.heap.size, 0, none⟩ = some (.int .i64 0) := cellOf hx 0 _ rfl; have y1 : w1.cell? ⟨w.heap.size, 1, none⟩ = some (.int .i64 0) := cellOf hx 1 _ rfl; have y2 : w1.cell? ⟨w.heap.size, 2, none⟩ = some (.int .i64 0) := cellOf hx 2 _ rfl; have y3 : w1.cell? ⟨w.heap.size, 3, none⟩ = some (.int .i64 0) := cellOf hx 3 _ rfl; have y4 : w1.cell? ⟨w.heap.size, 4, none⟩ = some (.string ⟨#[]⟩) := cellOf hx 4 _ rfl; clear hb hx; go_wp2_with fail; refine bodyPost_ret (results_cell_row rfl _ _ w.heap.size 136 _ (0, 0) _ rfl (set5 HX1.out.1 _ _ _ _ _) Tryz.underlying136 rfl (by kernel_rfl)) rfl ?_; exact ⟨rfl, below5 HX1.out.2 (Nat.le_refl _) _ _ _ _ _⟩
theorem magics_any (w : World) : Calls Tryz.prog 91 #[] w fun e w' => e = .returned (.agg #[.int .i64 5, .int .i64 4, .int .i64 1, .int .i64 4294967295, .string (be4 1)]) /\ Below w.heap.size w w' := by
 have h := lput4_any 1 (w.alloc (.cells #[.int .i64 0, .int .i64 0, .int .i64 0, .int .i64 0, .string ⟨#[]⟩] 136 (0, 0))) (by decide); have HP := H_ h; clear h; have hX := at1 w (.cells #[.int .i64 0, .int .i64 0, .int .i64 0, .int .i64 0, .string ⟨#[]⟩] 136 (0, 0)); have HX := H_ (A_ hX (A_ (alloc1 w (.cells #[.int .i64 0, .int .i64 0, .int .i64 0, .int .i64 0, .string ⟨#[]⟩] 136 (0, 0))) ((Below.refl w.heap.size w).alloc (Nat.le_refl _) (.cells #[.int .i64 0, .int .i64 0, .int .i64 0, .int .i64 0, .string ⟨#[]⟩] 136 (0, 0))))); clear hX; go_enter Tryz.func91, Tryz.ntmps91; go_wp2_with fail; refine HP.out.mono ?_; rintro e w1 ⟨rfl, hb⟩; have hx := (hb.block w.heap.size (by rw [HX.out.2.1]; omega)).trans HX.out.1; have HX1 := H_ (A_ hx (HX.out.2.2.trans (hb.mono (by rw [HX.out.2.1]; omega)))); have z := fun o => fzOf hx o; have y0 : w1.cell? ⟨w.heap.size, 0, none⟩ = some (.int .i64 0) := cellOf hx 0 _ rfl; have y1 : w1.cell? ⟨w.heap.size, 1, none⟩ = some (.int .i64 0) := cellOf hx 1 _ rfl; have y2 : w1.cell? ⟨w.heap.size, 2, none⟩ = some (.int .i64 0) := cellOf hx 2 _ rfl; have y3 : w1.cell? ⟨w.heap.size, 3, none⟩ = some (.int .i64 0) := cellOf hx 3 _ rfl; have y4 : w1.cell? ⟨w.heap.size, 4, none⟩ = some (.string ⟨#[]⟩) := cellOf hx 4 _ rfl; clear hb hx; go_wp2_with fail; refine bodyPost_ret (results_cell_row rfl _ _ w.heap.size 136 _ (0, 0) _ rfl (set5 HX1.out.1 _ _ _ _ _) Tryz.underlying136 rfl (by kernel_rfl)) rfl ?_; exact ⟨rfl, below5 HX1.out.2 (Nat.le_refl _) _ _ _ _ _⟩
structure TpS where
 l : List Int
 asks : Int
def tpNext (t : TpS) : Int × TpS := match t.l with
 | [] => (wrap64 (7 * wrap64 (t.asks + 1)) % 256, ⟨[], wrap64 (t.asks + 1)⟩)
 | x :: r => (x % 256, ⟨r, t.asks⟩)
def TapeAt (w : World) (tb : Nat) (ok : Nat -> Prop) (t : TpS) : Prop :=
 ∃ tv, w.heap[tb]? = some (.cells #[tv, .int .i64 t.asks] 129 (0, 0)) /\ Nums w ok tv t.l /\ (∀ x ∈ t.l, I64 x) /\ (∀ b, ok b -> b ≠ tb) /\ I64 t.asks /\ t.l.length <= 1000000
theorem TapeAt.keep {T : Nat -> Prop} {w w' : World} {tb : Nat} {ok : Nat -> Prop} {t : TpS} (h : TapeAt w tb ok t) (hk : Keep T w w') (h1 : ¬ T tb) (h2 : ∀ b, b < w.heap.size -> ok b -> ¬ T b) : TapeAt w' tb ok t := by
 obtain ⟨tv, a, b, c⟩ := h; exact ⟨tv, (hk.block _ (Array.getElem?_eq_some_iff.1 a).1 h1).trans a, Rec.keep b hk h2, c⟩
theorem TapeAt.below {w w' : World} {tb : Nat} {ok : Nat -> Prop} {t : TpS} (h : TapeAt w tb ok t) (hk : Below w.heap.size w w') : TapeAt w' tb ok t := h.keep (Keep.of_below (fun _ => False) hk) (fun h => h) (fun _ _ _ h => h)
theorem TapeAt.lt {w : World} {tb : Nat} {ok : Nat -> Prop} {t : TpS} (h : TapeAt w tb ok t) : tb < w.heap.size := by
 obtain ⟨tv, a, _⟩ := h; exact (Array.getElem?_eq_some_iff.1 a).1
def byteOf (x : Int) : UInt8 := UInt8.ofNat x.toNat
def tp4 (t : TpS) : ByteArray × TpS :=
 let a := tpNext t
 let b := tpNext a.2
 let c := tpNext b.2
 let d := tpNext c.2
 (⟨#[byteOf a.1, byteOf b.1, byteOf c.1, byteOf d.1]⟩, d.2)
theorem byteOf_nat (x : Int) (h : 0 <= x /\ x < 256) : ((byteOf x).toNat : Int) = x := by
 unfold byteOf; rw [UInt8.toNat_ofNat']; omega
def protoS (l : List Opt) : Int := if (findO l 3).isSome then (if ((findO l 3).getD default).v = papB then 49187 else if ((findO l 3).getD default).v = chapB then 49699 else 0) else 0
def pB2 (v : Int) : ByteArray := ⟨#[byteOf (v / 256 % 256), byteOf (v % 256)]⟩
def pB4 (v : Int) : ByteArray := ⟨#[byteOf (v / 16777216 % 256), byteOf (v / 65536 % 256), byteOf (v / 256 % 256), byteOf (v % 256)]⟩
theorem md (x : Int) : 0 <= x % 256 /\ x % 256 < 256 := by omega
set_option maxRecDepth 100000 in
theorem lputI2 (v : Int) (w : World) :
 Calls Tryz.prog 72 #[.int .i64 v, .int .i64 2] w fun e w' => e = .returned (.string (pB2 v)) /\ Below w.heap.size w w' := by
 have hmk : ∀ w, (Instr.makeSlice 66 (.int .i64 2) (.int .i64 2)).run Tryz.prog w = .ok (.slice (some ⟨w.heap.size, 0, none⟩) 2 2) (w.alloc (.cells #[.int .u8 0, .int .u8 0] 5 (0, 0))) := fun w => by kernel_rfl
 have hcv : (convert 66 9 (.slice (some ⟨w.heap.size, 0, none⟩) 2 2)).run Tryz.prog (w.alloc (.cells #[.int .u8 (v / 256 % 256), .int .u8 (v % 256)] 5 (0, 0))) = .ok (.string (pB2 v)) (w.alloc (.cells #[.int .u8 (v / 256 % 256), .int .u8 (v % 256)] 5 (0, 0))) := by
  have hx := at1 w (.cells #[.int .u8 (v / 256 % 256), .int .u8 (v % 256)] 5 (0, 0)); refine run_convert_bytes_back (P := Tryz.prog) _ 66 9 5 ⟨w.heap.size, 0, none⟩ 2 [byteOf (v / 256 % 256), byteOf (v % 256)] Tryz.underlying66 Tryz.underlying5 Tryz.underlying9 (fun j hj => ?_); rw [Addr.add_lit, Nat.zero_add]
  match j, hj with
  | 0, _ => simp only [List.getElem_cons_zero]; rw [byteOf_nat _ (md _)]; exact cellOf hx 0 _ rfl
  | 1, _ => simp only [List.getElem_cons_zero, List.getElem_cons_succ]; rw [byteOf_nat _ (md _)]; exact cellOf hx 1 _ rfl
 go_enter Tryz.func72, Tryz.ntmps72; go_wp2_with fail; refine wp_loop_rounds 3 ?_; rw [rounds_succ]; go_wp2_with fail; rw [rounds_succ]; go_wp2_with fail; rw [rounds_succ]; go_wp2_with fail; go_ret; exact ⟨rfl, (Below.refl _ _).alloc (Nat.le_refl _) _⟩
set_option maxRecDepth 100000 in
theorem lputI4 (v : Int) (w : World) :
 Calls Tryz.prog 72 #[.int .i64 v, .int .i64 4] w fun e w' => e = .returned (.string (pB4 v)) /\ Below w.heap.size w w' := by
 have hmk : ∀ w, (Instr.makeSlice 66 (.int .i64 4) (.int .i64 4)).run Tryz.prog w = .ok (.slice (some ⟨w.heap.size, 0, none⟩) 4 4) (w.alloc (.cells #[.int .u8 0, .int .u8 0, .int .u8 0, .int .u8 0] 5 (0, 0))) := fun w => by kernel_rfl
 have hcv : (convert 66 9 (.slice (some ⟨w.heap.size, 0, none⟩) 4 4)).run Tryz.prog (w.alloc (.cells #[.int .u8 (v / 16777216 % 256), .int .u8 (v / 65536 % 256), .int .u8 (v / 256 % 256), .int .u8 (v % 256)] 5 (0, 0))) = .ok (.string (pB4 v)) (w.alloc (.cells #[.int .u8 (v / 16777216 % 256), .int .u8 (v / 65536 % 256), .int .u8 (v / 256 % 256), .int .u8 (v % 256)] 5 (0, 0))) := by
  have hx := at1 w (.cells #[.int .u8 (v / 16777216 % 256), .int .u8 (v / 65536 % 256), .int .u8 (v / 256 % 256), .int .u8 (v % 256)] 5 (0, 0)); refine run_convert_bytes_back (P := Tryz.prog) _ 66 9 5 ⟨w.heap.size, 0, none⟩ 4 [byteOf (v / 16777216 % 256), byteOf (v / 65536 % 256), byteOf (v / 256 % 256), byteOf (v % 256)] Tryz.underlying66 Tryz.underlying5 Tryz.underlying9 (fun j hj => ?_); rw [Addr.add_lit, Nat.zero_add]
  match j, hj with
  | 0, _ => simp only [List.getElem_cons_zero]; rw [byteOf_nat _ (md _)]; exact cellOf hx 0 _ rfl
  | 1, _ => simp only [List.getElem_cons_zero, List.getElem_cons_succ]; rw [byteOf_nat _ (md _)]; exact cellOf hx 1 _ rfl
  | 2, _ => simp only [List.getElem_cons_zero, List.getElem_cons_succ]; rw [byteOf_nat _ (md _)]; exact cellOf hx 2 _ rfl
  | 3, _ => simp only [List.getElem_cons_zero, List.getElem_cons_succ]; rw [byteOf_nat _ (md _)]; exact cellOf hx 3 _ rfl
 go_enter Tryz.func72, Tryz.ntmps72; go_wp2_with fail; refine wp_loop_rounds 5 ?_; rw [rounds_succ]; go_wp2_with fail; rw [rounds_succ]; go_wp2_with fail; rw [rounds_succ]; go_wp2_with fail; rw [rounds_succ]; go_wp2_with fail; rw [rounds_succ]; go_wp2_with fail; go_ret; exact ⟨rfl, (Below.refl _ _).alloc (Nat.le_refl _) _⟩
structure LCfg where
 mru : Int
 auth : Int
 magic : Int
 echo : Int
 cf : Int
 tm : Int
 fl : Int
 wt : Int
def cfgV (c : LCfg) : Value := .agg #[.int .i64 c.mru, .int .i64 c.auth, .int .i64 c.magic, .int .i64 c.echo, .int .i64 c.cf, .int .i64 c.tm, .int .i64 c.fl, .int .i64 c.wt]
def optsS1 (c : LCfg) : List Opt := if c.mru = 1492 then [] else [⟨1, pB2 c.mru⟩]
def optsS2 (c : LCfg) : List Opt := if c.auth = 0 then optsS1 c else optsS1 c ++ [⟨3, lvalS c.auth⟩]
def optsS (c : LCfg) : List Opt := if c.magic = 0 then optsS2 c else optsS2 c ++ [⟨5, pB4 c.magic⟩]
structure OI (w W : World) (cs : Array Value) (rv : Value) (l : List Opt) : Prop where
 blk : W.heap[w.heap.size]? = some (.cells cs 86 (0, 0))
 row : ORow W (w.heap.size + 1) rv l
 bel : Below w.heap.size w W
theorem OI.sz {w W : World} {cs : Array Value} {rv : Value} {l : List Opt} (h : OI w W cs rv l) : w.heap.size + 1 <= W.heap.size := (Array.getElem?_eq_some_iff.1 h.blk).1
theorem OI.go {w W W' : World} {cs : Array Value} {rv : Value} {l : List Opt} (h : OI w W cs rv l) (hb : Below W.heap.size W W') : OI w W' cs rv l :=
 ⟨(hb.block _ h.sz).trans h.blk, h.row.below hb, h.bel.trans (hb.mono (Nat.le_of_succ_le h.sz))⟩
theorem OI.al {w W : World} {cs : Array Value} {rv : Value} {l : List Opt} (h : OI w W cs rv l) (o : Obj) : OI w (W.alloc o) cs rv l := h.go ((Below.refl _ _).alloc (Nat.le_refl _) o)
theorem OI.app {w W W' : World} {cs : Array Value} {rv rv' : Value} {l l' : List Opt} (h : OI w W cs rv l) (hr : ORow W' (w.heap.size + 1) rv' l') (hk : Keep (fun k => rv.ownBlock = some k) W W') : OI w W' cs rv' l' :=
 ⟨(hk.block _ h.sz (fun he => by have := (h.row.lt _ he).2; omega)).trans h.blk, hr, h.bel.trans (hk.below (Nat.le_of_succ_le h.sz) (fun k hk he => by have := (h.row.lt _ he).2; omega))⟩
set_option maxRecDepth 100000 in
theorem lopts_000 (m au mg ec cf tm fl wt : Int) (w : World) (ha : I64 au) (h1 : m = 1492) (h2 : au = 0) (h3 : mg = 0) :
 Calls Tryz.prog 89 #[cfgV ⟨m, au, mg, ec, cf, tm, fl, wt⟩] w fun e w' => ∃ v, e = .returned v /\ ORow w' w.heap.size v (optsS ⟨m, au, mg, ec, cf, tm, fl, wt⟩) /\ Below w.heap.size w w' := by
 have HA := H_ ha
 have HI : Hid (OI w (w.alloc (.cells #[.int .i64 m, .int .i64 au, .int .i64 mg, .int .i64 ec, .int .i64 cf, .int .i64 tm, .int .i64 fl, .int .i64 wt] 86 (0, 0))) #[.int .i64 m, .int .i64 au, .int .i64 mg, .int .i64 ec, .int .i64 cf, .int .i64 tm, .int .i64 fl, .int .i64 wt] (.slice none 0 0) []) :=
  H_ ⟨at1 _ _, ORow.nil _ _, (Below.refl _ _).alloc (Nat.le_refl _) _⟩
 have HE := H_ (show optsS ⟨m, au, mg, ec, cf, tm, fl, wt⟩ = ([] : List Opt) from by
  unfold optsS optsS2 optsS1
  simp [h1, h2, h3])
 generalize optsS ⟨m, au, mg, ec, cf, tm, fl, wt⟩ = R at *; unfold cfgV
 dsimp only
 clear ha; have e1 : (m != 1492) = false := by simpa using h1
 have e2 : (au != 0) = false := by simpa using h2
 have e3 : (mg != 0) = false := by simpa using h3
 clear h1 h2 h3; go_enter Tryz.func89, Tryz.ntmps89; go_wp2_with fail; go_ret; rw [HE.out]; exact ⟨_, rfl, (by have := HI.out.row.base (Nat.le_succ _); simpa using this), HI.out.bel⟩
set_option maxRecDepth 100000 in
theorem lopts_001 (m au mg ec cf tm fl wt : Int) (w : World) (ha : I64 au) (h1 : m = 1492) (h2 : au = 0) (h3 : ¬ mg = 0) :
 Calls Tryz.prog 89 #[cfgV ⟨m, au, mg, ec, cf, tm, fl, wt⟩] w fun e w' => ∃ v, e = .returned v /\ ORow w' w.heap.size v (optsS ⟨m, au, mg, ec, cf, tm, fl, wt⟩) /\ Below w.heap.size w w' := by
 have HA := H_ ha
 have HI : Hid (OI w (w.alloc (.cells #[.int .i64 m, .int .i64 au, .int .i64 mg, .int .i64 ec, .int .i64 cf, .int .i64 tm, .int .i64 fl, .int .i64 wt] 86 (0, 0))) #[.int .i64 m, .int .i64 au, .int .i64 mg, .int .i64 ec, .int .i64 cf, .int .i64 tm, .int .i64 fl, .int .i64 wt] (.slice none 0 0) []) :=
  H_ ⟨at1 _ _, ORow.nil _ _, (Below.refl _ _).alloc (Nat.le_refl _) _⟩
 have HE := H_ (show optsS ⟨m, au, mg, ec, cf, tm, fl, wt⟩ = (([] : List Opt) ++ [⟨5, pB4 mg⟩]) from by
  unfold optsS optsS2 optsS1
  simp [h1, h2, h3])
 generalize optsS ⟨m, au, mg, ec, cf, tm, fl, wt⟩ = R at *; unfold cfgV
 dsimp only
 clear ha; have e1 : (m != 1492) = false := by simpa using h1
 have e2 : (au != 0) = false := by simpa using h2
 have e3 : (mg != 0) = true := by simpa using h3
 clear h1 h2 h3; go_enter Tryz.func89, Tryz.ntmps89
 go_wp2_with (first
  | (
   go_at_call 72; refine (lputI4 _ _).mono ?_; rintro e W1 ⟨rfl, b1⟩; have HI := H_ (HI.out.go b1); have c1 := cellOf HI.out.blk 1 _ rfl; have c2 := cellOf HI.out.blk 2 _ rfl
   clear b1)
  | (
   at_builtin; refine wpl_append_opt rfl _ _ rfl _ _ rfl (HI.out.al _).row _ 1 _ _ rfl (at1 _ _) (by simp) (by rw [alloc1]; have := HI.out.sz; omega) ?_
   intro g cap W2 hr hk hg; have HI := H_ ((HI.out.al _).app hr hk); have c1 := cellOf HI.out.blk 1 _ rfl; have c2 := cellOf HI.out.blk 2 _ rfl
   clear hr hk hg))
 go_ret; rw [HE.out]; exact ⟨_, rfl, (by have := HI.out.row.base (Nat.le_succ _); simpa using this), HI.out.bel⟩
set_option maxRecDepth 100000 in
theorem lopts_010 (m au mg ec cf tm fl wt : Int) (w : World) (ha : I64 au) (h1 : m = 1492) (h2 : ¬ au = 0) (h3 : mg = 0) :
 Calls Tryz.prog 89 #[cfgV ⟨m, au, mg, ec, cf, tm, fl, wt⟩] w fun e w' => ∃ v, e = .returned v /\ ORow w' w.heap.size v (optsS ⟨m, au, mg, ec, cf, tm, fl, wt⟩) /\ Below w.heap.size w w' := by
 have HA := H_ ha
 have HI : Hid (OI w (w.alloc (.cells #[.int .i64 m, .int .i64 au, .int .i64 mg, .int .i64 ec, .int .i64 cf, .int .i64 tm, .int .i64 fl, .int .i64 wt] 86 (0, 0))) #[.int .i64 m, .int .i64 au, .int .i64 mg, .int .i64 ec, .int .i64 cf, .int .i64 tm, .int .i64 fl, .int .i64 wt] (.slice none 0 0) []) :=
  H_ ⟨at1 _ _, ORow.nil _ _, (Below.refl _ _).alloc (Nat.le_refl _) _⟩
 have HE := H_ (show optsS ⟨m, au, mg, ec, cf, tm, fl, wt⟩ = (([] : List Opt) ++ [⟨3, lvalS au⟩]) from by
  unfold optsS optsS2 optsS1
  simp [h1, h2, h3])
 generalize optsS ⟨m, au, mg, ec, cf, tm, fl, wt⟩ = R at *; unfold cfgV
 dsimp only
 clear ha; have e1 : (m != 1492) = false := by simpa using h1
 have e2 : (au != 0) = true := by simpa using h2
 have e3 : (mg != 0) = false := by simpa using h3
 clear h1 h2 h3; go_enter Tryz.func89, Tryz.ntmps89
 go_wp2_with (first
  | (
   go_at_call 87; refine (lvalue_any _ _ HA.out).mono ?_; rintro e W1 ⟨rfl, b1⟩; have HI := H_ (HI.out.go b1); have c2 := cellOf HI.out.blk 2 _ rfl
   clear b1)
  | (
   at_builtin; refine wpl_append_opt rfl _ _ rfl _ _ rfl (HI.out.al _).row _ 1 _ _ rfl (at1 _ _) (by simp) (by rw [alloc1]; have := HI.out.sz; omega) ?_
   intro g cap W2 hr hk hg; have HI := H_ ((HI.out.al _).app hr hk); have c1 := cellOf HI.out.blk 1 _ rfl; have c2 := cellOf HI.out.blk 2 _ rfl
   clear hr hk hg))
 go_ret; rw [HE.out]; exact ⟨_, rfl, (by have := HI.out.row.base (Nat.le_succ _); simpa using this), HI.out.bel⟩
set_option maxRecDepth 100000 in
theorem lopts_011 (m au mg ec cf tm fl wt : Int) (w : World) (ha : I64 au) (h1 : m = 1492) (h2 : ¬ au = 0) (h3 : ¬ mg = 0) :
 Calls Tryz.prog 89 #[cfgV ⟨m, au, mg, ec, cf, tm, fl, wt⟩] w fun e w' => ∃ v, e = .returned v /\ ORow w' w.heap.size v (optsS ⟨m, au, mg, ec, cf, tm, fl, wt⟩) /\ Below w.heap.size w w' := by
 have HA := H_ ha
 have HI : Hid (OI w (w.alloc (.cells #[.int .i64 m, .int .i64 au, .int .i64 mg, .int .i64 ec, .int .i64 cf, .int .i64 tm, .int .i64 fl, .int .i64 wt] 86 (0, 0))) #[.int .i64 m, .int .i64 au, .int .i64 mg, .int .i64 ec, .int .i64 cf, .int .i64 tm, .int .i64 fl, .int .i64 wt] (.slice none 0 0) []) :=
  H_ ⟨at1 _ _, ORow.nil _ _, (Below.refl _ _).alloc (Nat.le_refl _) _⟩
 have HE := H_ (show optsS ⟨m, au, mg, ec, cf, tm, fl, wt⟩ = ((([] : List Opt) ++ [⟨3, lvalS au⟩]) ++ [⟨5, pB4 mg⟩]) from by
  unfold optsS optsS2 optsS1
  simp [h1, h2, h3])
 generalize optsS ⟨m, au, mg, ec, cf, tm, fl, wt⟩ = R at *; unfold cfgV
 dsimp only
 clear ha; have e1 : (m != 1492) = false := by simpa using h1
 have e2 : (au != 0) = true := by simpa using h2
 have e3 : (mg != 0) = true := by simpa using h3
 clear h1 h2 h3; go_enter Tryz.func89, Tryz.ntmps89
 go_wp2_with (first
  | (
   go_at_call 72; refine (lputI4 _ _).mono ?_; rintro e W1 ⟨rfl, b1⟩; have HI := H_ (HI.out.go b1); have c1 := cellOf HI.out.blk 1 _ rfl; have c2 := cellOf HI.out.blk 2 _ rfl
   clear b1)
  | (
   go_at_call 87; refine (lvalue_any _ _ HA.out).mono ?_; rintro e W1 ⟨rfl, b1⟩; have HI := H_ (HI.out.go b1); have c2 := cellOf HI.out.blk 2 _ rfl
   clear b1)
  | (
   at_builtin; refine wpl_append_opt rfl _ _ rfl _ _ rfl (HI.out.al _).row _ 1 _ _ rfl (at1 _ _) (by simp) (by rw [alloc1]; have := HI.out.sz; omega) ?_
   intro g cap W2 hr hk hg; have HI := H_ ((HI.out.al _).app hr hk); have c1 := cellOf HI.out.blk 1 _ rfl; have c2 := cellOf HI.out.blk 2 _ rfl
   clear hr hk hg))
 go_ret; rw [HE.out]; exact ⟨_, rfl, (by have := HI.out.row.base (Nat.le_succ _); simpa using this), HI.out.bel⟩
set_option maxRecDepth 100000 in
theorem lopts_100 (m au mg ec cf tm fl wt : Int) (w : World) (ha : I64 au) (h1 : ¬ m = 1492) (h2 : au = 0) (h3 : mg = 0) :
 Calls Tryz.prog 89 #[cfgV ⟨m, au, mg, ec, cf, tm, fl, wt⟩] w fun e w' => ∃ v, e = .returned v /\ ORow w' w.heap.size v (optsS ⟨m, au, mg, ec, cf, tm, fl, wt⟩) /\ Below w.heap.size w w' := by
 have HA := H_ ha
 have HI : Hid (OI w (w.alloc (.cells #[.int .i64 m, .int .i64 au, .int .i64 mg, .int .i64 ec, .int .i64 cf, .int .i64 tm, .int .i64 fl, .int .i64 wt] 86 (0, 0))) #[.int .i64 m, .int .i64 au, .int .i64 mg, .int .i64 ec, .int .i64 cf, .int .i64 tm, .int .i64 fl, .int .i64 wt] (.slice none 0 0) []) :=
  H_ ⟨at1 _ _, ORow.nil _ _, (Below.refl _ _).alloc (Nat.le_refl _) _⟩
 have HE := H_ (show optsS ⟨m, au, mg, ec, cf, tm, fl, wt⟩ = (([] : List Opt) ++ [⟨1, pB2 m⟩]) from by
  unfold optsS optsS2 optsS1
  simp [h1, h2, h3])
 generalize optsS ⟨m, au, mg, ec, cf, tm, fl, wt⟩ = R at *; unfold cfgV
 dsimp only
 clear ha; have e1 : (m != 1492) = true := by simpa using h1
 have e2 : (au != 0) = false := by simpa using h2
 have e3 : (mg != 0) = false := by simpa using h3
 clear h1 h2 h3; go_enter Tryz.func89, Tryz.ntmps89
 go_wp2_with (first
  | (
   go_at_call 72; refine (lputI2 _ _).mono ?_; rintro e W1 ⟨rfl, b1⟩; have HI := H_ (HI.out.go b1); have c1 := cellOf HI.out.blk 1 _ rfl; have c2 := cellOf HI.out.blk 2 _ rfl
   clear b1)
  | (
   at_builtin; refine wpl_append_opt rfl _ _ rfl _ _ rfl (HI.out.al _).row _ 1 _ _ rfl (at1 _ _) (by simp) (by rw [alloc1]; have := HI.out.sz; omega) ?_
   intro g cap W2 hr hk hg; have HI := H_ ((HI.out.al _).app hr hk); have c1 := cellOf HI.out.blk 1 _ rfl; have c2 := cellOf HI.out.blk 2 _ rfl
   clear hr hk hg))
 go_ret; rw [HE.out]; exact ⟨_, rfl, (by have := HI.out.row.base (Nat.le_succ _); simpa using this), HI.out.bel⟩
set_option maxRecDepth 100000 in
theorem lopts_101 (m au mg ec cf tm fl wt : Int) (w : World) (ha : I64 au) (h1 : ¬ m = 1492) (h2 : au = 0) (h3 : ¬ mg = 0) :
 Calls Tryz.prog 89 #[cfgV ⟨m, au, mg, ec, cf, tm, fl, wt⟩] w fun e w' => ∃ v, e = .returned v /\ ORow w' w.heap.size v (optsS ⟨m, au, mg, ec, cf, tm, fl, wt⟩) /\ Below w.heap.size w w' := by
 have HA := H_ ha
 have HI : Hid (OI w (w.alloc (.cells #[.int .i64 m, .int .i64 au, .int .i64 mg, .int .i64 ec, .int .i64 cf, .int .i64 tm, .int .i64 fl, .int .i64 wt] 86 (0, 0))) #[.int .i64 m, .int .i64 au, .int .i64 mg, .int .i64 ec, .int .i64 cf, .int .i64 tm, .int .i64 fl, .int .i64 wt] (.slice none 0 0) []) :=
  H_ ⟨at1 _ _, ORow.nil _ _, (Below.refl _ _).alloc (Nat.le_refl _) _⟩
 have HE := H_ (show optsS ⟨m, au, mg, ec, cf, tm, fl, wt⟩ = ((([] : List Opt) ++ [⟨1, pB2 m⟩]) ++ [⟨5, pB4 mg⟩]) from by
  unfold optsS optsS2 optsS1
  simp [h1, h2, h3])
 generalize optsS ⟨m, au, mg, ec, cf, tm, fl, wt⟩ = R at *; unfold cfgV
 dsimp only
 clear ha; have e1 : (m != 1492) = true := by simpa using h1
 have e2 : (au != 0) = false := by simpa using h2
 have e3 : (mg != 0) = true := by simpa using h3
 clear h1 h2 h3; go_enter Tryz.func89, Tryz.ntmps89
 go_wp2_with (first
  | (
   go_at_call 72; first | with_reducible refine (lputI2 _ _).mono ?_ | with_reducible refine (lputI4 _ _).mono ?_
   rintro e W1 ⟨rfl, b1⟩; have HI := H_ (HI.out.go b1); have c1 := cellOf HI.out.blk 1 _ rfl; have c2 := cellOf HI.out.blk 2 _ rfl
   clear b1)
  | (
   at_builtin; refine wpl_append_opt rfl _ _ rfl _ _ rfl (HI.out.al _).row _ 1 _ _ rfl (at1 _ _) (by simp) (by rw [alloc1]; have := HI.out.sz; omega) ?_
   intro g cap W2 hr hk hg; have HI := H_ ((HI.out.al _).app hr hk); have c1 := cellOf HI.out.blk 1 _ rfl; have c2 := cellOf HI.out.blk 2 _ rfl
   clear hr hk hg))
 go_ret; rw [HE.out]; exact ⟨_, rfl, (by have := HI.out.row.base (Nat.le_succ _); simpa using this), HI.out.bel⟩
set_option maxRecDepth 100000 in
theorem lopts_110 (m au mg ec cf tm fl wt : Int) (w : World) (ha : I64 au) (h1 : ¬ m = 1492) (h2 : ¬ au = 0) (h3 : mg = 0) :
 Calls Tryz.prog 89 #[cfgV ⟨m, au, mg, ec, cf, tm, fl, wt⟩] w fun e w' => ∃ v, e = .returned v /\ ORow w' w.heap.size v (optsS ⟨m, au, mg, ec, cf, tm, fl, wt⟩) /\ Below w.heap.size w w' := by
 have HA := H_ ha
 have HI : Hid (OI w (w.alloc (.cells #[.int .i64 m, .int .i64 au, .int .i64 mg, .int .i64 ec, .int .i64 cf, .int .i64 tm, .int .i64 fl, .int .i64 wt] 86 (0, 0))) #[.int .i64 m, .int .i64 au, .int .i64 mg, .int .i64 ec, .int .i64 cf, .int .i64 tm, .int .i64 fl, .int .i64 wt] (.slice none 0 0) []) :=
  H_ ⟨at1 _ _, ORow.nil _ _, (Below.refl _ _).alloc (Nat.le_refl _) _⟩
 have HE := H_ (show optsS ⟨m, au, mg, ec, cf, tm, fl, wt⟩ = ((([] : List Opt) ++ [⟨1, pB2 m⟩]) ++ [⟨3, lvalS au⟩]) from by
  unfold optsS optsS2 optsS1
  simp [h1, h2, h3])
 generalize optsS ⟨m, au, mg, ec, cf, tm, fl, wt⟩ = R at *; unfold cfgV
 dsimp only
 clear ha; have e1 : (m != 1492) = true := by simpa using h1
 have e2 : (au != 0) = true := by simpa using h2
 have e3 : (mg != 0) = false := by simpa using h3
 clear h1 h2 h3; go_enter Tryz.func89, Tryz.ntmps89
 go_wp2_with (first
  | (
   go_at_call 72; refine (lputI2 _ _).mono ?_; rintro e W1 ⟨rfl, b1⟩; have HI := H_ (HI.out.go b1); have c1 := cellOf HI.out.blk 1 _ rfl; have c2 := cellOf HI.out.blk 2 _ rfl
   clear b1)
  | (
   go_at_call 87; refine (lvalue_any _ _ HA.out).mono ?_; rintro e W1 ⟨rfl, b1⟩; have HI := H_ (HI.out.go b1); have c2 := cellOf HI.out.blk 2 _ rfl
   clear b1)
  | (
   at_builtin; refine wpl_append_opt rfl _ _ rfl _ _ rfl (HI.out.al _).row _ 1 _ _ rfl (at1 _ _) (by simp) (by rw [alloc1]; have := HI.out.sz; omega) ?_
   intro g cap W2 hr hk hg; have HI := H_ ((HI.out.al _).app hr hk); have c1 := cellOf HI.out.blk 1 _ rfl; have c2 := cellOf HI.out.blk 2 _ rfl
   clear hr hk hg))
 go_ret; rw [HE.out]; exact ⟨_, rfl, (by have := HI.out.row.base (Nat.le_succ _); simpa using this), HI.out.bel⟩
set_option maxRecDepth 100000 in
theorem lopts_111 (m au mg ec cf tm fl wt : Int) (w : World) (ha : I64 au) (h1 : ¬ m = 1492) (h2 : ¬ au = 0) (h3 : ¬ mg = 0) :
 Calls Tryz.prog 89 #[cfgV ⟨m, au, mg, ec, cf, tm, fl, wt⟩] w fun e w' => ∃ v, e = .returned v /\ ORow w' w.heap.size v (optsS ⟨m, au, mg, ec, cf, tm, fl, wt⟩) /\ Below w.heap.size w w' := by
 have HA := H_ ha
 have HI : Hid (OI w (w.alloc (.cells #[.int .i64 m, .int .i64 au, .int .i64 mg, .int .i64 ec, .int .i64 cf, .int .i64 tm, .int .i64 fl, .int .i64 wt] 86 (0, 0))) #[.int .i64 m, .int .i64 au, .int .i64 mg, .int .i64 ec, .int .i64 cf, .int .i64 tm, .int .i64 fl, .int .i64 wt] (.slice none 0 0) []) :=
  H_ ⟨at1 _ _, ORow.nil _ _, (Below.refl _ _).alloc (Nat.le_refl _) _⟩
 have HE := H_ (show optsS ⟨m, au, mg, ec, cf, tm, fl, wt⟩ = (((([] : List Opt) ++ [⟨1, pB2 m⟩]) ++ [⟨3, lvalS au⟩]) ++ [⟨5, pB4 mg⟩]) from by
  unfold optsS optsS2 optsS1
  simp [h1, h2, h3])
 generalize optsS ⟨m, au, mg, ec, cf, tm, fl, wt⟩ = R at *; unfold cfgV
 dsimp only
 clear ha; have e1 : (m != 1492) = true := by simpa using h1
 have e2 : (au != 0) = true := by simpa using h2
 have e3 : (mg != 0) = true := by simpa using h3
 clear h1 h2 h3; go_enter Tryz.func89, Tryz.ntmps89
 go_wp2_with (first
  | (
   go_at_call 72; first | with_reducible refine (lputI2 _ _).mono ?_ | with_reducible refine (lputI4 _ _).mono ?_
   rintro e W1 ⟨rfl, b1⟩; have HI := H_ (HI.out.go b1); have c1 := cellOf HI.out.blk 1 _ rfl; have c2 := cellOf HI.out.blk 2 _ rfl
   clear b1)
  | (
   go_at_call 87; refine (lvalue_any _ _ HA.out).mono ?_; rintro e W1 ⟨rfl, b1⟩; have HI := H_ (HI.out.go b1); have c2 := cellOf HI.out.blk 2 _ rfl
   clear b1)
  | (
   at_builtin; refine wpl_append_opt rfl _ _ rfl _ _ rfl (HI.out.al _).row _ 1 _ _ rfl (at1 _ _) (by simp) (by rw [alloc1]; have := HI.out.sz; omega) ?_
   intro g cap W2 hr hk hg; have HI := H_ ((HI.out.al _).app hr hk); have c1 := cellOf HI.out.blk 1 _ rfl; have c2 := cellOf HI.out.blk 2 _ rfl
   clear hr hk hg))
 go_ret; rw [HE.out]; exact ⟨_, rfl, (by have := HI.out.row.base (Nat.le_succ _); simpa using this), HI.out.bel⟩
theorem lopts_any (c : LCfg) (w : World) (ha : I64 c.auth) :
 Calls Tryz.prog 89 #[cfgV c] w fun e w' => ∃ v, e = .returned v /\ ORow w' w.heap.size v (optsS c) /\ Below w.heap.size w w' := by
 obtain ⟨m, au, mg, ec, cf, tm, fl, wt⟩ := c
 by_cases h1 : m = 1492 <;> by_cases h2 : au = 0 <;> by_cases h3 : mg = 0
 . exact lopts_000 m au mg ec cf tm fl wt w ha h1 h2 h3
 . exact lopts_001 m au mg ec cf tm fl wt w ha h1 h2 h3
 . exact lopts_010 m au mg ec cf tm fl wt w ha h1 h2 h3
 . exact lopts_011 m au mg ec cf tm fl wt w ha h1 h2 h3
 . exact lopts_100 m au mg ec cf tm fl wt w ha h1 h2 h3
 . exact lopts_101 m au mg ec cf tm fl wt w ha h1 h2 h3
 . exact lopts_110 m au mg ec cf tm fl wt w ha h1 h2 h3
 . exact lopts_111 m au mg ec cf tm fl wt w ha h1 h2 h3
def wB : List Opt -> List Opt -> Bool
 | _, [] => true
 | [], _ :: _ => false
 | r :: rs, o :: l => if eqB r o then wB rs l else wB rs (o :: l)
section
variable {w : World} {S ok : Nat -> Prop} {B : NegB} {C : NegC} {st : NSt} {X : NegX}
def refusedS (rej : Pk -> ByteArray) (C : NegC) (st : NSt) (p : Pk) : NSt × List Pk :=
 if wB st.req p.o then
  if p.o.any (fun o => hasB C.must o.t) then evS rej C st 14 ⟨true, p, 0, []⟩ else evS rej C { st with req := st.req.filter fun o => !(p.o.any (eqB o)) } 9 ⟨true, p, 0, []⟩
 else (st, [])
end
section
variable (rej : Pk -> ByteArray) {w : World} {S ok : Nat -> Prop} {B : NegB} {C : NegC} {st : NSt} {X : NegX}
end
def nameOne (C : NegC) (req : List Opt) (o : Opt) : List Opt :=
 if idxP (fun x => x.t == o.t) req < 0 then req
 else if (findR C.own o.t).isSome && fitsR (ruleOf C.own o.t) o.v then req.set (idxP (fun x => x.t == o.t) req).toNat o
 else if hasB C.must o.t then req else req.eraseIdx (idxP (fun x => x.t == o.t) req).toNat
def namedS (rej : Pk -> ByteArray) (C : NegC) (st : NSt) (p : Pk) : NSt × List Pk := evS rej C { st with req := p.o.foldl (nameOne C) st.req } 9 ⟨true, p, 0, []⟩
section
variable {w : World} {S : Nat -> Prop} {B : NegB} {C : NegC} {st : NSt} {X : NegX}
end
structure Ad where
 a : UInt8
 b : UInt8
 c : UInt8
 d : UInt8
def Ad.v (x : Ad) : Value := .agg #[.int .u8 (x.a.toNat : Int), .int .u8 (x.b.toNat : Int), .int .u8 (x.c.toNat : Int), .int .u8 (x.d.toNat : Int)]
def Ad.cs (x : Ad) : Array Value := #[.int .u8 (x.a.toNat : Int), .int .u8 (x.b.toNat : Int), .int .u8 (x.c.toNat : Int), .int .u8 (x.d.toNat : Int)]
def Ad.s (x : Ad) : ByteArray := ⟨#[x.a, x.b, x.c, x.d]⟩
def Ad.z : Ad := ⟨0, 0, 0, 0⟩
def adE (x y : Ad) : Bool := decide (x.a = y.a) && (decide (x.b = y.b) && (decide (x.c = y.c) && decide (x.d = y.d)))
theorem span_any (k m : Int) (s : ByteArray) (w : World) : Calls Tryz.prog 94 #[.int .i64 k, .int .i64 m, .string s] w fun e w' => e = .returned (.agg #[.int .i64 k, .int .i64 4, .int .i64 m, .int .i64 4294967295, .string s]) /\ Below w.heap.size w w' := by
 go_enter Tryz.func94, Tryz.ntmps94; go_wp2_with fail; refine bodyPost_ret (results_cell_row rfl _ _ w.heap.size 136 _ (0, 0) _ rfl (at1 w _) Tryz.underlying136 rfl (by kernel_rfl)) rfl ?_; exact ⟨rfl, (Below.refl _ _).alloc (Nat.le_refl _) _⟩
def justR (k : Int) (x : Ad) : Rl := ⟨k, 4, valB [x.a, x.b, x.c, x.d], valB [x.a, x.b, x.c, x.d], x.s⟩
def spanR (k m : Int) (s : ByteArray) : Rl := ⟨k, 4, m, 4294967295, s⟩
def adOf (s : ByteArray) : Ad := ⟨s.data.getD 0 0, s.data.getD 1 0, s.data.getD 2 0, s.data.getD 3 0⟩
def adrS (l : List Opt) (k : Int) : Ad × Bool := match findO l k with
 | none => (Ad.z, false)
 | some o => if o.v.size = 4 then (adOf o.v, true) else (Ad.z, false)
def goodS (a b : Ad) : Bool := adE a b && !adE a Ad.z
structure Lay (W Wc : World) (l : List (Nat × Obj)) : Prop where
 bl : Below W.heap.size W Wc
 get : ∀ p ∈ l, W.heap.size <= p.1 /\ Wc.heap[p.1]? = some p.2
structure Boxes (w W : World) (own peer d1 d2 : Ad) : Prop where
 size : W.heap.size = w.heap.size + 1 + 1 + 1 + 1
 x0 : W.heap[w.heap.size]? = some (.cells own.cs 23 (0, 0))
 x1 : W.heap[w.heap.size + 1]? = some (.cells peer.cs 23 (0, 0))
 x2 : W.heap[w.heap.size + 1 + 1]? = some (.cells d1.cs 23 (0, 0))
 x3 : W.heap[w.heap.size + 1 + 1 + 1]? = some (.cells d2.cs 23 (0, 0))
 bl : Below w.heap.size w W
def srvR (peer d1 d2 : Ad) : List Rl := [justR 3 peer] ++ (if adE d1 Ad.z then [] else [justR 129 d1]) ++ (if adE d2 Ad.z then [] else [justR 131 d2])
def SrvQ (w W : World) (own peer d1 d2 : Ad) (cf tm fl wt vp : Int) (a' : Act) (w' : World) : Prop := ∃ sb ob rb, Below W.heap.size W w' /\ (W.heap.size <= sb /\ w'.heap[sb]? = some (.cells #[.slice (some ⟨ob, 0, none⟩) 1 1, .slice none 0 0, .slice (some ⟨rb, 0, none⟩) 1 1, .slice none 0 0, .int .i64 cf, .int .i64 tm, .int .i64 fl, .int .i64 wt] 118 (0, 0))) /\ (W.heap.size <= ob /\ w'.heap[ob]? = some (.cells #[.int .i64 3, .string own.s] 132 (0, 0))) /\ (W.heap.size <= rb /\ w'.heap[rb]? = some (.cells #[.int .i64 3, .int .i64 4, .int .i64 vp, .int .i64 vp, .string peer.s] 136 (0, 0))) /\ a' = ⟨#[.agg #[.int .u8 (own.a.toNat : Int), .int .u8 (own.b.toNat : Int), .int .u8 (own.c.toNat : Int), .int .u8 (own.d.toNat : Int)], .agg #[.int .u8 (peer.a.toNat : Int), .int .u8 (peer.b.toNat : Int), .int .u8 (peer.c.toNat : Int), .int .u8 (peer.d.toNat : Int)], .agg #[.int .u8 (d1.a.toNat : Int), .int .u8 (d1.b.toNat : Int), .int .u8 (d1.c.toNat : Int), .int .u8 (d1.d.toNat : Int)], .agg #[.int .u8 (d2.a.toNat : Int), .int .u8 (d2.b.toNat : Int), .int .u8 (d2.c.toNat : Int), .int .u8 (d2.d.toNat : Int)], .int .i64 cf, .int .i64 tm, .int .i64 fl, .int .i64 wt, .pointer (some ⟨w.heap.size, 0, none⟩), .pointer (some ⟨w.heap.size + 1, 0, none⟩), .pointer (some ⟨w.heap.size + 1 + 1, 0, none⟩), .pointer (some ⟨w.heap.size + 1 + 1 + 1, 0, none⟩), undef, undef, undef, undef, .pointer none, .int .i64 0, .pointer (some ⟨sb, 0, none⟩), .slice (some ⟨w.heap.size, 0, none⟩) 4 4, .string own.s, .agg #[.int .i64 3, .string own.s], .slice (some ⟨ob, 0, none⟩) 1 1, .agg #[.int .u8 (peer.a.toNat : Int), .int .u8 (peer.b.toNat : Int), .int .u8 (peer.c.toNat : Int), .int .u8 (peer.d.toNat : Int)], .agg #[.int .i64 3, .int .i64 4, .int .i64 vp, .int .i64 vp, .string peer.s], .slice (some ⟨rb, 0, none⟩) 1 1, .int .i64 cf, .int .i64 tm, .int .i64 fl, .int .i64 wt, .agg #[.slice (some ⟨ob, 0, none⟩) 1 1, .slice none 0 0, .slice (some ⟨rb, 0, none⟩) 1 1, .slice none 0 0, .int .i64 cf, .int .i64 tm, .int .i64 fl, .int .i64 wt], undef, undef, undef, undef, undef, undef, undef, undef, undef, undef, undef, undef, undef, undef, undef, undef, undef, undef, undef, undef, undef, undef, undef, undef], []⟩
theorem RRow.nil0 {w : World} {B n c : Nat} {l : List Rl} (h : RRow w B (.slice none n c) l) : c = 0 := by
 obtain ⟨_, h | ⟨g, cap, cur, h, _⟩⟩ := h
 . have := h.1; simp at this; exact this.2
 . cases h
structure SrvI (w wr : World) (d1 d2 : Ad) (sb : Nat) (ov pv : Value) (al : List Opt) (rs : List Rl) (cf tm fl wt : Int) : Prop where
 bl : Below w.heap.size w wr
 x2 : wr.heap[w.heap.size + 1 + 1]? = some (.cells d1.cs 23 (0, 0))
 x3 : wr.heap[w.heap.size + 1 + 1 + 1]? = some (.cells d2.cs 23 (0, 0))
 sbk : wr.heap[sb]? = some (.cells #[ov, .slice none 0 0, pv, .slice none 0 0, .int .i64 cf, .int .i64 tm, .int .i64 fl, .int .i64 wt] 118 (0, 0))
 hsb : w.heap.size + 1 + 1 + 1 + 1 <= sb
 orow : ORow wr w.heap.size ov al
 rrow : RRow wr (w.heap.size + 1 + 1 + 1 + 1) pv rs
 ne1 : ∀ k, pv.ownBlock = some k -> k ≠ sb
 ne2 : ∀ k, ov.ownBlock = some k -> k ≠ sb
 ne3 : ∀ k, ov.ownBlock = some k -> pv.ownBlock ≠ some k
theorem NRow.one {w : World} {g base : Nat} (x : Int) (h : w.heap[g]? = some (.cells #[.int .i64 x] 3 (0, 0))) (hb : base <= g) : NRow w base (.slice (some ⟨g, 0, none⟩) 1 1) [x] :=
 ⟨rfl, Or.inr ⟨g, 1, _, rfl, hb, h, Nat.le_refl _, by unfold maxLen; omega, rfl, rfl⟩⟩
def n4 : ByteArray := ⟨#[0, 0, 0, 0]⟩
def o4 : ByteArray := ⟨#[0, 0, 0, 1]⟩
def cliA (dns : Bool) (k : Nat) : List Opt := match dns, k with
 | true, 2 => [⟨3, n4⟩, ⟨129, n4⟩]
 | true, 3 => [⟨3, n4⟩, ⟨129, n4⟩, ⟨131, n4⟩]
 | _, _ => [⟨3, n4⟩]
def cliO : Nat -> List Rl
 | 0 => []
 | 1 => [spanR 3 1 o4]
 | 2 => [spanR 3 1 o4, spanR 129 1 o4]
 | _ => [spanR 3 1 o4, spanR 129 1 o4, spanR 131 1 o4]
structure CliI (w wr : World) (sb ib rb mb : Nat) (ov wv : Value) (al : List Opt) (rs : List Rl) (cf tm fl wt : Int) : Prop where
 bl : Below w.heap.size w wr
 sbk : wr.heap[sb]? = some (.cells #[ov, wv, .slice (some ⟨rb, 0, none⟩) 1 1, .slice (some ⟨mb, 0, none⟩) 1 1, .int .i64 cf, .int .i64 tm, .int .i64 fl, .int .i64 wt] 118 (0, 0))
 ibk : wr.heap[ib]? = some (.cells #[.int .i64 3, .int .i64 129, .int .i64 131] 3 (0, 0))
 rbk : wr.heap[rb]? = some (.cells #[.int .i64 3, .int .i64 4, .int .i64 0, .int .i64 4294967295, .string ⟨#[0, 0, 0, 0]⟩] 136 (0, 0))
 mbk : wr.heap[mb]? = some (.cells #[.int .i64 3] 3 (0, 0))
 orow : ORow wr w.heap.size ov al
 wrow : RRow wr w.heap.size wv rs
 hs : w.heap.size <= sb /\ w.heap.size <= ib /\ w.heap.size <= rb /\ w.heap.size <= mb
 no : ∀ k, ov.ownBlock = some k -> k ≠ sb /\ k ≠ ib /\ k ≠ rb /\ k ≠ mb /\ wv.ownBlock ≠ some k
 nw : ∀ k, wv.ownBlock = some k -> k ≠ sb /\ k ≠ ib /\ k ≠ rb /\ k ≠ mb
section
variable {w wr w' : World} {sb ib rb mb : Nat} {ov wv ov' wv' : Value} {al al' : List Opt} {rs rs' : List Rl} {cf tm fl wt : Int}
theorem lt_of_heap {w : World} {k : Nat} {o : Obj} (e : w.heap[k]? = some o) : k < w.heap.size := (Array.getElem?_eq_some_iff.1 e).1
theorem CliI.sz (h : CliI w wr sb ib rb mb ov wv al rs cf tm fl wt) : w.heap.size <= wr.heap.size := h.bl.size
theorem CliI.ne (h : CliI w wr sb ib rb mb ov wv al rs cf tm fl wt) : ib ≠ sb /\ rb ≠ sb /\ mb ≠ sb := by
 refine ⟨?_, ?_, ?_⟩
 . rintro rfl; have := h.sbk.symm.trans h.ibk; simp at this
 . rintro rfl; have := h.sbk.symm.trans h.rbk; simp at this
 . rintro rfl; have := h.sbk.symm.trans h.mbk; simp at this
theorem CliI.go (h : CliI w wr sb ib rb mb ov wv al rs cf tm fl wt) (hb : Below wr.heap.size wr w') : CliI w w' sb ib rb mb ov wv al rs cf tm fl wt :=
 { h with bl := h.bl.trans (hb.mono h.bl.size), sbk := (hb.block _ (lt_of_heap h.sbk)).trans h.sbk, ibk := (hb.block _ (lt_of_heap h.ibk)).trans h.ibk, rbk := (hb.block _ (lt_of_heap h.rbk)).trans h.rbk, mbk := (hb.block _ (lt_of_heap h.mbk)).trans h.mbk, orow := h.orow.below hb, wrow := h.wrow.below hb }
theorem CliI.appW (h : CliI w wr sb ib rb mb ov wv al rs cf tm fl wt) (hk : Keep (fun k => wv.ownBlock = some k) wr w') (hr : RRow w' w.heap.size wv' rs') (ho : wv'.ownBlock = wv.ownBlock \/ wv'.ownBlock = some wr.heap.size) :
 CliI w (w'.setCell ⟨sb, 1, none⟩ wv') sb ib rb mb ov wv' al rs' cf tm fl wt := by
 obtain ⟨e1, e2, e3⟩ := h.ne; have hk2 : Keep (fun b => b = sb) w' (w'.setCell ⟨sb, 1, none⟩ wv') := (Keep.refl (fun b => b = sb) w').setCell ⟨sb, 1, none⟩ (Or.inr rfl) wv'; have l1 := lt_of_heap h.sbk; have l2 := lt_of_heap h.ibk; have l3 := lt_of_heap h.rbk; have l4 := lt_of_heap h.mbk; have hz := hk.size; have y1 := (hk.block sb l1 (fun he => (h.nw sb he).1 rfl)).trans h.sbk; have y2 := (hk.block ib l2 (fun he => (h.nw ib he).2.1 rfl)).trans h.ibk; have y3 := (hk.block rb l3 (fun he => (h.nw rb he).2.2.1 rfl)).trans h.rbk; have y4 := (hk.block mb l4 (fun he => (h.nw mb he).2.2.2 rfl)).trans h.mbk
 have hn' : ∀ k, wv'.ownBlock = some k -> k ≠ sb /\ k ≠ ib /\ k ≠ rb /\ k ≠ mb := fun k hk' => by
  rcases ho with ho | ho
  . exact h.nw k (by rw [<- ho]; exact hk')
  . rw [ho] at hk'; cases hk'; exact ⟨by omega, by omega, by omega, by omega⟩
 have hhs := h.hs
 exact { h with
  bl := h.bl.trans ((hk.below h.bl.size (fun k hk he => by have := (h.wrow.lt k he).2; omega)).trans (hk2.below (by have := h.bl.size; omega) (fun k hk he => by omega)))
  sbk := by have := set_block y1 1 wv'; simpa using this
  ibk := (hk2.block _ (lt_of_heap y2) e1).trans y2
  rbk := (hk2.block _ (lt_of_heap y3) e2).trans y3
  mbk := (hk2.block _ (lt_of_heap y4) e3).trans y4
  orow := (h.orow.keep hk (fun k hk' he => (h.no k hk').2.2.2.2 he)).keep hk2 (fun k hk' he => (h.no k hk').1 he)
  wrow := hr.keep hk2 (fun k hk' he => (hn' k hk').1 he)
  no := fun k hk' => ⟨(h.no k hk').1, (h.no k hk').2.1, (h.no k hk').2.2.1, (h.no k hk').2.2.2.1, fun he => by
   rcases ho with ho | ho
   . exact (h.no k hk').2.2.2.2 (by rw [<- ho]; exact he)
   . rw [ho] at he; cases he; exact absurd (h.orow.lt _ hk').1 (Nat.lt_irrefl _)⟩
  nw := hn' }
theorem CliI.appO (h : CliI w wr sb ib rb mb ov wv al rs cf tm fl wt) (hk : Keep (fun k => ov.ownBlock = some k) wr w') (hr : ORow w' w.heap.size ov' al') (ho : ov'.ownBlock = ov.ownBlock \/ ov'.ownBlock = some wr.heap.size) :
 CliI w (w'.setCell ⟨sb, 0, none⟩ ov') sb ib rb mb ov' wv al' rs cf tm fl wt := by
 obtain ⟨e1, e2, e3⟩ := h.ne; have hk2 : Keep (fun b => b = sb) w' (w'.setCell ⟨sb, 0, none⟩ ov') := (Keep.refl (fun b => b = sb) w').setCell ⟨sb, 0, none⟩ (Or.inr rfl) ov'; have l1 := lt_of_heap h.sbk; have l2 := lt_of_heap h.ibk; have l3 := lt_of_heap h.rbk; have l4 := lt_of_heap h.mbk; have hz := hk.size; have y1 := (hk.block sb l1 (fun he => (h.no sb he).1 rfl)).trans h.sbk; have y2 := (hk.block ib l2 (fun he => (h.no ib he).2.1 rfl)).trans h.ibk; have y3 := (hk.block rb l3 (fun he => (h.no rb he).2.2.1 rfl)).trans h.rbk; have y4 := (hk.block mb l4 (fun he => (h.no mb he).2.2.2.1 rfl)).trans h.mbk; have hhs := h.hs
 have hn' : ∀ k, ov'.ownBlock = some k -> k ≠ sb /\ k ≠ ib /\ k ≠ rb /\ k ≠ mb /\ wv.ownBlock ≠ some k := fun k hk' => by
  rcases ho with ho | ho
  . exact h.no k (by rw [<- ho]; exact hk')
  . rw [ho] at hk'; cases hk'; exact ⟨by omega, by omega, by omega, by omega, fun he => absurd (h.wrow.lt _ he).1 (Nat.lt_irrefl _)⟩
 exact { h with
  bl := h.bl.trans ((hk.below h.bl.size (fun k hk he => by have := (h.orow.lt k he).2; omega)).trans (hk2.below (by have := h.bl.size; omega) (fun k hk he => by omega)))
  sbk := by have := set_block y1 0 ov'; simpa using this
  ibk := (hk2.block _ (lt_of_heap y2) e1).trans y2
  rbk := (hk2.block _ (lt_of_heap y3) e2).trans y3
  mbk := (hk2.block _ (lt_of_heap y4) e3).trans y4
  orow := hr.keep hk2 (fun k hk' he => (hn' k hk').1 he)
  wrow := (h.wrow.keep hk (fun k hk' he => (h.no k he).2.2.2.2 hk')).keep hk2 (fun k hk' he => (h.nw k hk').1 he)
  no := hn' }
end
theorem setCell_size (w : World) (a : Addr) (v : Value) : (w.setCell a v).heap.size = w.heap.size := by simp [World.setCell]
theorem alloc4 (w : World) (A B C D : Obj) : ∃ W, W = (((w.alloc A).alloc B).alloc C).alloc D /\ W.heap.size = w.heap.size + 1 + 1 + 1 + 1 /\ W.heap[w.heap.size]? = some A /\ W.heap[w.heap.size + 1]? = some B /\ W.heap[w.heap.size + 1 + 1]? = some C /\ W.heap[w.heap.size + 1 + 1 + 1]? = some D /\ Below w.heap.size w W := by
 have e1 := alloc1 w A; have e2 := alloc1 (w.alloc A) B; have e3 := alloc1 ((w.alloc A).alloc B) C; have e4 := alloc1 (((w.alloc A).alloc B).alloc C) D; refine ⟨_, rfl, by omega, ?_, ?_, ?_, ?_, ((((Below.refl _ _).alloc (Nat.le_refl _) _).alloc (by omega) _).alloc (by omega) _).alloc (by omega) _⟩
 . rw [Below.heap_alloc _ _ _ (by omega), Below.heap_alloc _ _ _ (by omega), Below.heap_alloc _ _ _ (by omega)]; exact at1 _ _
 . rw [Below.heap_alloc _ _ _ (by omega), Below.heap_alloc _ _ _ (by omega), <- e1]; exact at1 _ _
 . rw [Below.heap_alloc _ _ _ (by omega), show w.heap.size + 1 + 1 = ((w.alloc A).alloc B).heap.size by omega]; exact at1 _ _
 . rw [show w.heap.size + 1 + 1 + 1 = (((w.alloc A).alloc B).alloc C).heap.size by omega]; exact at1 _ _
set_option maxRecDepth 100000 in
theorem client_any (cf tm fl wt : Int) (dns : Bool) (w : World) (hcf : 1 <= cf /\ cf <= 20) (htm : 1 <= tm /\ tm <= 20) (hfl : 0 <= fl /\ fl <= 20) (hwt : 1 <= wt /\ wt <= 100) :
 Calls Tryz.prog 51 #[.int .i64 cf, .int .i64 tm, .int .i64 fl, .int .i64 wt, .bool dns] w fun e w' => ∃ v, e = .returned v /\ NewAt w w' v (cliA dns 3) (cliO 3) [spanR 3 0 n4] [3] cf tm fl wt := by
 have HA := H_ (A_ hcf (A_ htm (A_ hfl hwt))); have b1 := (Below.refl w.heap.size w).alloc (Nat.le_refl _) (.cells #[.int .i64 3, .string ⟨#[0, 0, 0, 0]⟩] 132 (0, 0)); have z1 := at1 w (.cells #[.int .i64 3, .string ⟨#[0, 0, 0, 0]⟩] 132 (0, 0)); have H1 := H_ (A_ b1 (A_ z1 (alloc1 w (.cells #[.int .i64 3, .string ⟨#[0, 0, 0, 0]⟩] 132 (0, 0))))); clear hcf htm hfl hwt b1 z1; go_enter Tryz.func51, Tryz.ntmps51; go_wp2_with fail; refine (span_any 3 0 ⟨#[0, 0, 0, 0]⟩ _).mono ?_; rintro e w1 ⟨rfl, hb⟩; have H2 := H_ (A_ (H1.out.1.trans (hb.mono H1.out.1.size)) (A_ ((hb.block _ (by rw [H1.out.2.2]; omega)).trans H1.out.2.1) (show w.heap.size + 1 <= w1.heap.size by have := hb.size; rw [H1.out.2.2] at this; exact this))); clear hb
 obtain ⟨W, hW, hI0⟩ : ∃ W, W = (((w1.alloc (.cells #[.int .i64 3, .int .i64 4, .int .i64 0, .int .i64 4294967295, .string ⟨#[0, 0, 0, 0]⟩] 136 (0, 0))).alloc (.cells #[.int .i64 3] 3 (0, 0))).alloc (.cells #[.slice (some ⟨w.heap.size, 0, none⟩) 1 1, .slice none 0 0, .slice (some ⟨w1.heap.size, 0, none⟩) 1 1, .slice (some ⟨w1.heap.size + 1, 0, none⟩) 1 1, .int .i64 cf, .int .i64 tm, .int .i64 fl, .int .i64 wt] 118 (0, 0))).alloc (.cells #[.int .i64 3, .int .i64 129, .int .i64 131] 3 (0, 0)) /\
  CliI w W (w1.heap.size + 1 + 1) (w1.heap.size + 1 + 1 + 1) w1.heap.size (w1.heap.size + 1) (.slice (some ⟨w.heap.size, 0, none⟩) 1 1) (.slice none 0 0) [⟨3, n4⟩] [] cf tm fl wt := by
  obtain ⟨W, hW, hs, x0, x1, x2, x3, hb⟩ := alloc4 w1 (.cells #[.int .i64 3, .int .i64 4, .int .i64 0, .int .i64 4294967295, .string ⟨#[0, 0, 0, 0]⟩] 136 (0, 0)) (.cells #[.int .i64 3] 3 (0, 0)) (.cells #[.slice (some ⟨w.heap.size, 0, none⟩) 1 1, .slice none 0 0, .slice (some ⟨w1.heap.size, 0, none⟩) 1 1, .slice (some ⟨w1.heap.size + 1, 0, none⟩) 1 1, .int .i64 cf, .int .i64 tm, .int .i64 fl, .int .i64 wt] 118 (0, 0)) (.cells #[.int .i64 3, .int .i64 129, .int .i64 131] 3 (0, 0)); have h2 := H2.out.2.2; have xo := (hb.block w.heap.size (by omega)).trans H2.out.2.1
  exact ⟨W, hW, H2.out.1.trans (hb.mono H2.out.1.size), x2, x3, x0, x1, ORow.one ⟨3, n4⟩ xo (Nat.le_refl _), RRow.nil _ _, ⟨by omega, by omega, by omega, by omega⟩, fun k hk => by
   have hk : w.heap.size = k := by simpa [Value.ownBlock] using hk
   subst hk
   exact ⟨by omega, by omega, by omega, by omega, fun h => by cases h⟩, fun k hk => by cases hk⟩
 have HI0 := H_ hI0; clear hI0 H1 H2; cases dns
 all_goals
  go_wp2_with fail; rw [<- hW]; clear hW; generalize w1.heap.size + 1 + 1 + 1 = ib at HI0 ⊢; generalize w1.heap.size + 1 + 1 = sb at HI0 ⊢; generalize w1.heap.size + 1 = mb at HI0 ⊢; generalize w1.heap.size = rb at HI0 ⊢
 . go_loopg [27] 3 (fun x i wr => ∃ k : Nat, k <= 3 /\ x = 3 - k /\ i = .int .i64 k /\ Hid (∃ ov wv, CliI w wr sb ib rb mb ov wv (cliA false k) (cliO k) cf tm fl wt))
   case atStart => exact ⟨0, by omega, by omega, rfl, _, _, HI0.out⟩
   case round =>
    obtain ⟨k, hk, rfl, rfl, hK⟩ := hrel
    rcases (show k = 0 \/ k = 1 \/ k = 2 \/ k = 3 by omega) with rfl | rfl | rfl | rfl
    . obtain ⟨ov, wv, hI⟩ := hK.out; obtain ⟨oa, oc, rfl⟩ := hI.orow.form; obtain ⟨wa, wc, rfl⟩ := hI.wrow.form; have HI : Hid (CliI w wr sb ib rb mb (.slice oa 1 oc) (.slice wa 0 wc) [⟨3, ⟨#[0, 0, 0, 0]⟩⟩] [] cf tm fl wt) := H_ hI; clear hI hK; have s1 := cellOf HI.out.sbk 1 _ rfl; have i0 := cellOf HI.out.ibk 0 _ rfl; go_wp2_with fail; refine wp_region_H (rgH 1 5) (fun X : World => X.cell? ⟨sb, 1, none⟩ = some (.slice wa 0 wc)) (by kernel_rfl) ?_; have HSv : (fun X : World => X.cell? ⟨sb, 1, none⟩ = some (.slice wa 0 wc)) wr.drew := s1; refine hatP 0 rfl (by intro W _; go_simp; try rfl) ?_; simp only [aZ, aC, aD]; refine hatH 1 rfl (by rintro W h0; go_simp; try rfl) HSv ?_; simp only [aZ, aC, aD]; refine hone 2 rfl fun K hK => ?_
      try go_simp
      refine hK _ _ (fun _ => HSv) ?_
      try simp only [aZ, aA, aE, aB, aC, aD]
      clear HSv s1 i0; refine hone 3 rfl fun K hK => ?_
      try go_simp
      go_at_call 94; refine (span_any 3 1 ⟨#[0, 0, 0, 1]⟩ _).mono ?_; rintro e U ⟨rfl, hb⟩; have J := H_ ((HI.out.go (Below.refl _ _).drew).go hb); have HSv : (fun X : World => X.cell? ⟨sb, 1, none⟩ = some (.slice wa 0 wc)) U := cellOf J.out.sbk 1 _ rfl; clear hb; refine hK _ _ (fun _ => HSv) ?_
      try simp only [aZ, aA, aE, aB, aC, aD]
      refine hone 4 rfl fun K hK => ?_
      try go_simp
      have K1 := H_ (J.out.go ((Below.refl _ _).alloc (Nat.le_refl _) (.cells #[.int .i64 3, .int .i64 4, .int .i64 1, .int .i64 4294967295, .string ⟨#[0, 0, 0, 1]⟩] 136 (0, 0)))); have HN := H_ (at1 U (.cells #[.int .i64 3, .int .i64 4, .int .i64 1, .int .i64 4294967295, .string ⟨#[0, 0, 0, 1]⟩] 136 (0, 0))); have HSv : (fun X : World => X.cell? ⟨sb, 1, none⟩ = some (.slice wa 0 wc)) (U.alloc (.cells #[.int .i64 3, .int .i64 4, .int .i64 1, .int .i64 4294967295, .string ⟨#[0, 0, 0, 1]⟩] 136 (0, 0))) := cellOf K1.out.sbk 1 _ rfl; refine hK _ _ (fun _ => HSv) ?_
      try simp only [aZ, aA, aE, aB, aC, aD]
      clear HSv; refine hend 5 ?_; simp only [aF, aG]
      go_wp2_with (first
       | (
        at_builtin; refine wpl_append_rules rfl _ _ rfl _ [] rfl K1.out.wrow _ [⟨3, 4, 1, 4294967295, ⟨#[0, 0, 0, 1]⟩⟩] rfl ((RRow.one ⟨3, 4, 1, 4294967295, ⟨#[0, 0, 0, 1]⟩⟩ HN.out (Nat.le_refl _)).rls (show 1 <= maxLen by decide)) (by intro n c h; cases h) (by simp) K1.out.sz ?_
        intro wv2 T r5 k5 o5; obtain ⟨wb, wd, rfl⟩ := r5.form; have r5 : RRow T _ (.slice wb 1 wd) [⟨3, 4, 1, 4294967295, ⟨#[0, 0, 0, 1]⟩⟩] := r5; have o5 : (Value.ownBlock (.slice wb 1 wd) = _ \/ _) := o5; have I1 := H_ (K1.out.appW k5 r5 o5); have y4 := (k5.block sb (Array.getElem?_eq_some_iff.1 K1.out.sbk).1 (fun he => (K1.out.nw sb he).1 rfl)).trans K1.out.sbk; have u2 := cellOf y4 1 _ rfl; have f2 := fun o => fzOf y4 o
        clear r5 k5 o5 y4))
      go_roundg (3 - (0 + 1))
      case measure => omega
      case rel => exact ⟨1, by omega, rfl, by go_num, _, _, I1.out⟩
    . obtain ⟨ov, wv, hI⟩ := hK.out; obtain ⟨oa, oc, rfl⟩ := hI.orow.form; obtain ⟨wa, wc, rfl⟩ := hI.wrow.form; have HI : Hid (CliI w wr sb ib rb mb (.slice oa 1 oc) (.slice wa 1 wc) [⟨3, ⟨#[0, 0, 0, 0]⟩⟩] [⟨3, 4, 1, 4294967295, ⟨#[0, 0, 0, 1]⟩⟩] cf tm fl wt) := H_ hI; clear hI hK; have s1 := cellOf HI.out.sbk 1 _ rfl; have i0 := cellOf HI.out.ibk 1 _ rfl; go_wp2_with fail; refine wp_region_H (rgH 1 5) (fun X : World => X.cell? ⟨sb, 1, none⟩ = some (.slice wa 1 wc)) (by kernel_rfl) ?_; have HSv : (fun X : World => X.cell? ⟨sb, 1, none⟩ = some (.slice wa 1 wc)) wr.drew := s1; refine hatP 0 rfl (by intro W _; go_simp; try rfl) ?_; simp only [aZ, aC, aD]; refine hatH 1 rfl (by rintro W h0; go_simp; try rfl) HSv ?_; simp only [aZ, aC, aD]; refine hone 2 rfl fun K hK => ?_
      try go_simp
      refine hK _ _ (fun _ => HSv) ?_
      try simp only [aZ, aA, aE, aB, aC, aD]
      clear HSv s1 i0; refine hone 3 rfl fun K hK => ?_
      try go_simp
      go_at_call 94; refine (span_any 129 1 ⟨#[0, 0, 0, 1]⟩ _).mono ?_; rintro e U ⟨rfl, hb⟩; have J := H_ ((HI.out.go (Below.refl _ _).drew).go hb); have HSv : (fun X : World => X.cell? ⟨sb, 1, none⟩ = some (.slice wa 1 wc)) U := cellOf J.out.sbk 1 _ rfl; clear hb; refine hK _ _ (fun _ => HSv) ?_
      try simp only [aZ, aA, aE, aB, aC, aD]
      refine hone 4 rfl fun K hK => ?_
      try go_simp
      have K1 := H_ (J.out.go ((Below.refl _ _).alloc (Nat.le_refl _) (.cells #[.int .i64 129, .int .i64 4, .int .i64 1, .int .i64 4294967295, .string ⟨#[0, 0, 0, 1]⟩] 136 (0, 0)))); have HN := H_ (at1 U (.cells #[.int .i64 129, .int .i64 4, .int .i64 1, .int .i64 4294967295, .string ⟨#[0, 0, 0, 1]⟩] 136 (0, 0))); have HSv : (fun X : World => X.cell? ⟨sb, 1, none⟩ = some (.slice wa 1 wc)) (U.alloc (.cells #[.int .i64 129, .int .i64 4, .int .i64 1, .int .i64 4294967295, .string ⟨#[0, 0, 0, 1]⟩] 136 (0, 0))) := cellOf K1.out.sbk 1 _ rfl; refine hK _ _ (fun _ => HSv) ?_
      try simp only [aZ, aA, aE, aB, aC, aD]
      clear HSv; refine hend 5 ?_; simp only [aF, aG]
      go_wp2_with (first
       | (
        at_builtin; refine wpl_append_rules rfl _ _ rfl _ [⟨3, 4, 1, 4294967295, ⟨#[0, 0, 0, 1]⟩⟩] rfl K1.out.wrow _ [⟨129, 4, 1, 4294967295, ⟨#[0, 0, 0, 1]⟩⟩] rfl ((RRow.one ⟨129, 4, 1, 4294967295, ⟨#[0, 0, 0, 1]⟩⟩ HN.out (Nat.le_refl _)).rls (show 1 <= maxLen by decide)) (by intro n c h; cases h) (by simp) K1.out.sz ?_
        intro wv2 T r5 k5 o5; obtain ⟨wb, wd, rfl⟩ := r5.form; have r5 : RRow T _ (.slice wb 2 wd) [⟨3, 4, 1, 4294967295, ⟨#[0, 0, 0, 1]⟩⟩, ⟨129, 4, 1, 4294967295, ⟨#[0, 0, 0, 1]⟩⟩] := r5; have o5 : (Value.ownBlock (.slice wb 2 wd) = _ \/ _) := o5; have I1 := H_ (K1.out.appW k5 r5 o5); have y4 := (k5.block sb (Array.getElem?_eq_some_iff.1 K1.out.sbk).1 (fun he => (K1.out.nw sb he).1 rfl)).trans K1.out.sbk; have u2 := cellOf y4 1 _ rfl; have f2 := fun o => fzOf y4 o
        clear r5 k5 o5 y4))
      go_roundg (3 - (1 + 1))
      case measure => omega
      case rel => exact ⟨2, by omega, rfl, by go_num, _, _, I1.out⟩
    . obtain ⟨ov, wv, hI⟩ := hK.out; obtain ⟨oa, oc, rfl⟩ := hI.orow.form; obtain ⟨wa, wc, rfl⟩ := hI.wrow.form; have HI : Hid (CliI w wr sb ib rb mb (.slice oa 1 oc) (.slice wa 2 wc) [⟨3, ⟨#[0, 0, 0, 0]⟩⟩] [⟨3, 4, 1, 4294967295, ⟨#[0, 0, 0, 1]⟩⟩, ⟨129, 4, 1, 4294967295, ⟨#[0, 0, 0, 1]⟩⟩] cf tm fl wt) := H_ hI; clear hI hK; have s1 := cellOf HI.out.sbk 1 _ rfl; have i0 := cellOf HI.out.ibk 2 _ rfl; go_wp2_with fail; refine wp_region_H (rgH 1 5) (fun X : World => X.cell? ⟨sb, 1, none⟩ = some (.slice wa 2 wc)) (by kernel_rfl) ?_; have HSv : (fun X : World => X.cell? ⟨sb, 1, none⟩ = some (.slice wa 2 wc)) wr.drew := s1; refine hatP 0 rfl (by intro W _; go_simp; try rfl) ?_; simp only [aZ, aC, aD]; refine hatH 1 rfl (by rintro W h0; go_simp; try rfl) HSv ?_; simp only [aZ, aC, aD]; refine hone 2 rfl fun K hK => ?_
      try go_simp
      refine hK _ _ (fun _ => HSv) ?_
      try simp only [aZ, aA, aE, aB, aC, aD]
      clear HSv s1 i0; refine hone 3 rfl fun K hK => ?_
      try go_simp
      go_at_call 94; refine (span_any 131 1 ⟨#[0, 0, 0, 1]⟩ _).mono ?_; rintro e U ⟨rfl, hb⟩; have J := H_ ((HI.out.go (Below.refl _ _).drew).go hb); have HSv : (fun X : World => X.cell? ⟨sb, 1, none⟩ = some (.slice wa 2 wc)) U := cellOf J.out.sbk 1 _ rfl; clear hb; refine hK _ _ (fun _ => HSv) ?_
      try simp only [aZ, aA, aE, aB, aC, aD]
      refine hone 4 rfl fun K hK => ?_
      try go_simp
      have K1 := H_ (J.out.go ((Below.refl _ _).alloc (Nat.le_refl _) (.cells #[.int .i64 131, .int .i64 4, .int .i64 1, .int .i64 4294967295, .string ⟨#[0, 0, 0, 1]⟩] 136 (0, 0)))); have HN := H_ (at1 U (.cells #[.int .i64 131, .int .i64 4, .int .i64 1, .int .i64 4294967295, .string ⟨#[0, 0, 0, 1]⟩] 136 (0, 0))); have HSv : (fun X : World => X.cell? ⟨sb, 1, none⟩ = some (.slice wa 2 wc)) (U.alloc (.cells #[.int .i64 131, .int .i64 4, .int .i64 1, .int .i64 4294967295, .string ⟨#[0, 0, 0, 1]⟩] 136 (0, 0))) := cellOf K1.out.sbk 1 _ rfl; refine hK _ _ (fun _ => HSv) ?_
      try simp only [aZ, aA, aE, aB, aC, aD]
      clear HSv; refine hend 5 ?_; simp only [aF, aG]
      go_wp2_with (first
       | (
        at_builtin; refine wpl_append_rules rfl _ _ rfl _ [⟨3, 4, 1, 4294967295, ⟨#[0, 0, 0, 1]⟩⟩, ⟨129, 4, 1, 4294967295, ⟨#[0, 0, 0, 1]⟩⟩] rfl K1.out.wrow _ [⟨131, 4, 1, 4294967295, ⟨#[0, 0, 0, 1]⟩⟩] rfl ((RRow.one ⟨131, 4, 1, 4294967295, ⟨#[0, 0, 0, 1]⟩⟩ HN.out (Nat.le_refl _)).rls (show 1 <= maxLen by decide)) (by intro n c h; cases h) (by simp) K1.out.sz ?_
        intro wv2 T r5 k5 o5; obtain ⟨wb, wd, rfl⟩ := r5.form; have r5 : RRow T _ (.slice wb 3 wd) [⟨3, 4, 1, 4294967295, ⟨#[0, 0, 0, 1]⟩⟩, ⟨129, 4, 1, 4294967295, ⟨#[0, 0, 0, 1]⟩⟩, ⟨131, 4, 1, 4294967295, ⟨#[0, 0, 0, 1]⟩⟩] := r5; have o5 : (Value.ownBlock (.slice wb 3 wd) = _ \/ _) := o5; have I1 := H_ (K1.out.appW k5 r5 o5); have y4 := (k5.block sb (Array.getElem?_eq_some_iff.1 K1.out.sbk).1 (fun he => (K1.out.nw sb he).1 rfl)).trans K1.out.sbk; have u2 := cellOf y4 1 _ rfl; have f2 := fun o => fzOf y4 o
        clear r5 k5 o5 y4))
      go_roundg (3 - (2 + 1))
      case measure => omega
      case rel => exact ⟨3, by omega, rfl, by go_num, _, _, I1.out⟩
    . obtain ⟨ov, wv, hI⟩ := hK.out; obtain ⟨oa, oc, rfl⟩ := hI.orow.form; obtain ⟨wa, wc, rfl⟩ := hI.wrow.form; have hI : CliI w wr sb ib rb mb (.slice oa 1 oc) (.slice wa 3 wc) [⟨3, ⟨#[0, 0, 0, 0]⟩⟩] [⟨3, 4, 1, 4294967295, ⟨#[0, 0, 0, 1]⟩⟩, ⟨129, 4, 1, 4294967295, ⟨#[0, 0, 0, 1]⟩⟩, ⟨131, 4, 1, 4294967295, ⟨#[0, 0, 0, 1]⟩⟩] cf tm fl wt := hI; have s0 := cellOf hI.sbk 0 _ rfl; have s1 := cellOf hI.sbk 1 _ rfl; have s2 := cellOf hI.sbk 2 _ rfl; have s3 := cellOf hI.sbk 3 _ rfl; have s4 := cellOf hI.sbk 4 _ rfl; have s5 := cellOf hI.sbk 5 _ rfl; have s6 := cellOf hI.sbk 6 _ rfl; have s7 := cellOf hI.sbk 7 _ rfl; have hO : Rls wr (fun b => w.heap.size <= b) _ [⟨3, 4, 1, 4294967295, ⟨#[0, 0, 0, 1]⟩⟩, ⟨129, 4, 1, 4294967295, ⟨#[0, 0, 0, 1]⟩⟩, ⟨131, 4, 1, 4294967295, ⟨#[0, 0, 0, 1]⟩⟩] := Rec.mono (hI.wrow.rls (by unfold maxLen; simp)) (fun b hb => hb); have hP : Rls wr (fun b => w.heap.size <= b) _ [⟨3, 4, 0, 4294967295, ⟨#[0, 0, 0, 0]⟩⟩] := Rec.mono ((RRow.one ⟨3, 4, 0, 4294967295, ⟨#[0, 0, 0, 0]⟩⟩ hI.rbk hI.hs.2.2.1).rls (show 1 <= maxLen by decide)) (fun b hb => hb); have hM : Nums wr (fun b => w.heap.size <= b) _ [3] := Rec.mono ((NRow.one 3 hI.mbk hI.hs.2.2.2).nums (show 1 <= maxLen by decide)) (fun b hb => hb); have hN := new_at [⟨3, ⟨#[0, 0, 0, 0]⟩⟩] [⟨3, 4, 1, 4294967295, ⟨#[0, 0, 0, 1]⟩⟩, ⟨129, 4, 1, 4294967295, ⟨#[0, 0, 0, 1]⟩⟩, ⟨131, 4, 1, 4294967295, ⟨#[0, 0, 0, 1]⟩⟩] [⟨3, 4, 0, 4294967295, ⟨#[0, 0, 0, 0]⟩⟩] [3] _ _ _ _ (fun b => w.heap.size <= b) cf tm fl wt _ (hI.orow.opts (by unfold maxLen; simp)) hO hP hM (fun n c h => by have hR := hI.wrow; rw [h] at hR; exact hR.nil0) (fun n c h => by cases h) (by simp) (by simp) (by simp) (inB20_true.2 HA.out.1) (inB20_true.2 HA.out.2.1) HA.out.2.2.1.1 HA.out.2.2.1.2 HA.out.2.2.2.1 HA.out.2.2.2.2 (by decide) (by kernel_rfl) (by kernel_rfl) (by decide) (by kernel_rfl); have HN := H_ hN; have HBL := H_ hI.bl; clear hN hI hO hP hM hK; go_wp2_with fail; refine HN.out.mono ?_; rintro e w9 ⟨v, rfl, B, jb, rfl, h1, h2, h3, h4, h5⟩; have H9 := H_ (A_ h1 (A_ h2 (A_ h3 (A_ h4 h5)))); clear h1 h2 h3 h4 h5; go_wp2_with fail; go_ret2; have hsz := HBL.out.size; exact ⟨_, rfl, B, jb, rfl, H9.out.1.mono (fun b hb => Nat.le_trans hsz hb), H9.out.2.1, Nat.le_trans hsz H9.out.2.2.1, H9.out.2.2.2.1, HBL.out.trans (H9.out.2.2.2.2.mono hsz)⟩
 . go_loopg [27] 3 (fun x i wr => ∃ k : Nat, k <= 3 /\ x = 3 - k /\ i = .int .i64 k /\ Hid (∃ ov wv, CliI w wr sb ib rb mb ov wv (cliA true k) (cliO k) cf tm fl wt))
   case atStart => exact ⟨0, by omega, by omega, rfl, _, _, HI0.out⟩
   case round =>
    obtain ⟨k, hk, rfl, rfl, hK⟩ := hrel
    rcases (show k = 0 \/ k = 1 \/ k = 2 \/ k = 3 by omega) with rfl | rfl | rfl | rfl
    . obtain ⟨ov, wv, hI⟩ := hK.out; obtain ⟨oa, oc, rfl⟩ := hI.orow.form; obtain ⟨wa, wc, rfl⟩ := hI.wrow.form; have HI : Hid (CliI w wr sb ib rb mb (.slice oa 1 oc) (.slice wa 0 wc) [⟨3, ⟨#[0, 0, 0, 0]⟩⟩] [] cf tm fl wt) := H_ hI; clear hI hK; have s1 := cellOf HI.out.sbk 1 _ rfl; have i0 := cellOf HI.out.ibk 0 _ rfl; go_wp2_with fail; refine wp_region_H (rgH 1 5) (fun X : World => X.cell? ⟨sb, 1, none⟩ = some (.slice wa 0 wc)) (by kernel_rfl) ?_; have HSv : (fun X : World => X.cell? ⟨sb, 1, none⟩ = some (.slice wa 0 wc)) wr.drew := s1; refine hatP 0 rfl (by intro W _; go_simp; try rfl) ?_; simp only [aZ, aC, aD]; refine hatH 1 rfl (by rintro W h0; go_simp; try rfl) HSv ?_; simp only [aZ, aC, aD]; refine hone 2 rfl fun K hK => ?_
      try go_simp
      refine hK _ _ (fun _ => HSv) ?_
      try simp only [aZ, aA, aE, aB, aC, aD]
      clear HSv s1 i0; refine hone 3 rfl fun K hK => ?_
      try go_simp
      go_at_call 94; refine (span_any 3 1 ⟨#[0, 0, 0, 1]⟩ _).mono ?_; rintro e U ⟨rfl, hb⟩; have J := H_ ((HI.out.go (Below.refl _ _).drew).go hb); have HSv : (fun X : World => X.cell? ⟨sb, 1, none⟩ = some (.slice wa 0 wc)) U := cellOf J.out.sbk 1 _ rfl; clear hb; refine hK _ _ (fun _ => HSv) ?_
      try simp only [aZ, aA, aE, aB, aC, aD]
      refine hone 4 rfl fun K hK => ?_
      try go_simp
      have K1 := H_ (J.out.go ((Below.refl _ _).alloc (Nat.le_refl _) (.cells #[.int .i64 3, .int .i64 4, .int .i64 1, .int .i64 4294967295, .string ⟨#[0, 0, 0, 1]⟩] 136 (0, 0)))); have HN := H_ (at1 U (.cells #[.int .i64 3, .int .i64 4, .int .i64 1, .int .i64 4294967295, .string ⟨#[0, 0, 0, 1]⟩] 136 (0, 0))); have HSv : (fun X : World => X.cell? ⟨sb, 1, none⟩ = some (.slice wa 0 wc)) (U.alloc (.cells #[.int .i64 3, .int .i64 4, .int .i64 1, .int .i64 4294967295, .string ⟨#[0, 0, 0, 1]⟩] 136 (0, 0))) := cellOf K1.out.sbk 1 _ rfl; refine hK _ _ (fun _ => HSv) ?_
      try simp only [aZ, aA, aE, aB, aC, aD]
      clear HSv; refine hend 5 ?_; simp only [aF, aG]
      go_wp2_with (first
       | (
        at_builtin; refine wpl_append_rules rfl _ _ rfl _ [] rfl K1.out.wrow _ [⟨3, 4, 1, 4294967295, ⟨#[0, 0, 0, 1]⟩⟩] rfl ((RRow.one ⟨3, 4, 1, 4294967295, ⟨#[0, 0, 0, 1]⟩⟩ HN.out (Nat.le_refl _)).rls (show 1 <= maxLen by decide)) (by intro n c h; cases h) (by simp) K1.out.sz ?_
        intro wv2 T r5 k5 o5; obtain ⟨wb, wd, rfl⟩ := r5.form; have r5 : RRow T _ (.slice wb 1 wd) [⟨3, 4, 1, 4294967295, ⟨#[0, 0, 0, 1]⟩⟩] := r5; have o5 : (Value.ownBlock (.slice wb 1 wd) = _ \/ _) := o5; have I1 := H_ (K1.out.appW k5 r5 o5); have y4 := (k5.block sb (Array.getElem?_eq_some_iff.1 K1.out.sbk).1 (fun he => (K1.out.nw sb he).1 rfl)).trans K1.out.sbk; have u2 := cellOf y4 1 _ rfl; have f2 := fun o => fzOf y4 o
        clear r5 k5 o5 y4))
      go_roundg (3 - (0 + 1))
      case measure => omega
      case rel => exact ⟨1, by omega, rfl, by go_num, _, _, I1.out⟩
    . obtain ⟨ov, wv, hI⟩ := hK.out; obtain ⟨oa, oc, rfl⟩ := hI.orow.form; obtain ⟨wa, wc, rfl⟩ := hI.wrow.form; have HI : Hid (CliI w wr sb ib rb mb (.slice oa 1 oc) (.slice wa 1 wc) [⟨3, ⟨#[0, 0, 0, 0]⟩⟩] [⟨3, 4, 1, 4294967295, ⟨#[0, 0, 0, 1]⟩⟩] cf tm fl wt) := H_ hI; clear hI hK; have s1 := cellOf HI.out.sbk 1 _ rfl; have i0 := cellOf HI.out.ibk 1 _ rfl; go_wp2_with fail; refine wp_region_H (rgH 1 5) (fun X : World => X.cell? ⟨sb, 1, none⟩ = some (.slice wa 1 wc)) (by kernel_rfl) ?_; have HSv : (fun X : World => X.cell? ⟨sb, 1, none⟩ = some (.slice wa 1 wc)) wr.drew := s1; refine hatP 0 rfl (by intro W _; go_simp; try rfl) ?_; simp only [aZ, aC, aD]; refine hatH 1 rfl (by rintro W h0; go_simp; try rfl) HSv ?_; simp only [aZ, aC, aD]; refine hone 2 rfl fun K hK => ?_
      try go_simp
      refine hK _ _ (fun _ => HSv) ?_
      try simp only [aZ, aA, aE, aB, aC, aD]
      clear HSv s1 i0; refine hone 3 rfl fun K hK => ?_
      try go_simp
      go_at_call 94; refine (span_any 129 1 ⟨#[0, 0, 0, 1]⟩ _).mono ?_; rintro e U ⟨rfl, hb⟩; have J := H_ ((HI.out.go (Below.refl _ _).drew).go hb); have HSv : (fun X : World => X.cell? ⟨sb, 1, none⟩ = some (.slice wa 1 wc)) U := cellOf J.out.sbk 1 _ rfl; clear hb; refine hK _ _ (fun _ => HSv) ?_
      try simp only [aZ, aA, aE, aB, aC, aD]
      refine hone 4 rfl fun K hK => ?_
      try go_simp
      have K1 := H_ (J.out.go ((Below.refl _ _).alloc (Nat.le_refl _) (.cells #[.int .i64 129, .int .i64 4, .int .i64 1, .int .i64 4294967295, .string ⟨#[0, 0, 0, 1]⟩] 136 (0, 0)))); have HN := H_ (at1 U (.cells #[.int .i64 129, .int .i64 4, .int .i64 1, .int .i64 4294967295, .string ⟨#[0, 0, 0, 1]⟩] 136 (0, 0))); have HSv : (fun X : World => X.cell? ⟨sb, 1, none⟩ = some (.slice wa 1 wc)) (U.alloc (.cells #[.int .i64 129, .int .i64 4, .int .i64 1, .int .i64 4294967295, .string ⟨#[0, 0, 0, 1]⟩] 136 (0, 0))) := cellOf K1.out.sbk 1 _ rfl; refine hK _ _ (fun _ => HSv) ?_
      try simp only [aZ, aA, aE, aB, aC, aD]
      clear HSv; refine hend 5 ?_; simp only [aF, aG]
      go_wp2_with (first
       | (
        at_builtin; refine wpl_append_rules rfl _ _ rfl _ [⟨3, 4, 1, 4294967295, ⟨#[0, 0, 0, 1]⟩⟩] rfl K1.out.wrow _ [⟨129, 4, 1, 4294967295, ⟨#[0, 0, 0, 1]⟩⟩] rfl ((RRow.one ⟨129, 4, 1, 4294967295, ⟨#[0, 0, 0, 1]⟩⟩ HN.out (Nat.le_refl _)).rls (show 1 <= maxLen by decide)) (by intro n c h; cases h) (by simp) K1.out.sz ?_
        intro wv2 T r5 k5 o5; obtain ⟨wb, wd, rfl⟩ := r5.form; have r5 : RRow T _ (.slice wb 2 wd) [⟨3, 4, 1, 4294967295, ⟨#[0, 0, 0, 1]⟩⟩, ⟨129, 4, 1, 4294967295, ⟨#[0, 0, 0, 1]⟩⟩] := r5; have o5 : (Value.ownBlock (.slice wb 2 wd) = _ \/ _) := o5; have I1 := H_ (K1.out.appW k5 r5 o5); have y4 := (k5.block sb (Array.getElem?_eq_some_iff.1 K1.out.sbk).1 (fun he => (K1.out.nw sb he).1 rfl)).trans K1.out.sbk; have u2 := cellOf y4 1 _ rfl; have f2 := fun o => fzOf y4 o; have s0 := cellOf I1.out.sbk 0 _ rfl; have K2 := H_ (I1.out.go ((Below.refl _ _).alloc (Nat.le_refl _) (.cells #[.int .i64 129, .string ⟨#[0, 0, 0, 0]⟩] 132 (0, 0)))); have HN2 := H_ (show ((T.setCell ⟨sb, 1, none⟩ (.slice wb 2 wd)).alloc (.cells #[.int .i64 129, .string ⟨#[0, 0, 0, 0]⟩] 132 (0, 0))).heap[T.heap.size]? = some (.cells #[.int .i64 129, .string ⟨#[0, 0, 0, 0]⟩] 132 (0, 0)) from by rw [<- setCell_size T ⟨sb, 1, none⟩ (.slice wb 2 wd)]; exact at1 _ _)
        clear r5 k5 o5 y4)
       | (
        at_builtin; refine wpl_append_opt rfl _ _ rfl _ [⟨3, ⟨#[0, 0, 0, 0]⟩⟩] rfl K2.out.orow _ 1 129 ⟨#[0, 0, 0, 0]⟩ rfl HN2.out (by simp) K2.out.sz ?_
        intro og od T2 r6 k6 o6; have r6 : ORow T2 _ (.slice (some ⟨og, 0, none⟩) 2 od) [⟨3, ⟨#[0, 0, 0, 0]⟩⟩, ⟨129, ⟨#[0, 0, 0, 0]⟩⟩] := r6; have I2 := H_ (K2.out.appO k6 r6 (o6.elim (fun h => Or.inl h.symm) (fun h => Or.inr (congrArg some h)))); have y5 := (k6.block sb (Array.getElem?_eq_some_iff.1 K2.out.sbk).1 (fun he => (K2.out.no sb he).1 rfl)).trans K2.out.sbk; have u3 := cellOf y5 0 _ rfl; have f3 := fun o => fzOf y5 o
        clear r6 k6 o6 y5))
      go_roundg (3 - (1 + 1))
      case measure => omega
      case rel => exact ⟨2, by omega, rfl, by go_num, _, _, I2.out⟩
    . obtain ⟨ov, wv, hI⟩ := hK.out; obtain ⟨oa, oc, rfl⟩ := hI.orow.form; obtain ⟨wa, wc, rfl⟩ := hI.wrow.form; have HI : Hid (CliI w wr sb ib rb mb (.slice oa 2 oc) (.slice wa 2 wc) [⟨3, ⟨#[0, 0, 0, 0]⟩⟩, ⟨129, ⟨#[0, 0, 0, 0]⟩⟩] [⟨3, 4, 1, 4294967295, ⟨#[0, 0, 0, 1]⟩⟩, ⟨129, 4, 1, 4294967295, ⟨#[0, 0, 0, 1]⟩⟩] cf tm fl wt) := H_ hI; clear hI hK; have s1 := cellOf HI.out.sbk 1 _ rfl; have i0 := cellOf HI.out.ibk 2 _ rfl; go_wp2_with fail; refine wp_region_H (rgH 1 5) (fun X : World => X.cell? ⟨sb, 1, none⟩ = some (.slice wa 2 wc)) (by kernel_rfl) ?_; have HSv : (fun X : World => X.cell? ⟨sb, 1, none⟩ = some (.slice wa 2 wc)) wr.drew := s1; refine hatP 0 rfl (by intro W _; go_simp; try rfl) ?_; simp only [aZ, aC, aD]; refine hatH 1 rfl (by rintro W h0; go_simp; try rfl) HSv ?_; simp only [aZ, aC, aD]; refine hone 2 rfl fun K hK => ?_
      try go_simp
      refine hK _ _ (fun _ => HSv) ?_
      try simp only [aZ, aA, aE, aB, aC, aD]
      clear HSv s1 i0; refine hone 3 rfl fun K hK => ?_
      try go_simp
      go_at_call 94; refine (span_any 131 1 ⟨#[0, 0, 0, 1]⟩ _).mono ?_; rintro e U ⟨rfl, hb⟩; have J := H_ ((HI.out.go (Below.refl _ _).drew).go hb); have HSv : (fun X : World => X.cell? ⟨sb, 1, none⟩ = some (.slice wa 2 wc)) U := cellOf J.out.sbk 1 _ rfl; clear hb; refine hK _ _ (fun _ => HSv) ?_
      try simp only [aZ, aA, aE, aB, aC, aD]
      refine hone 4 rfl fun K hK => ?_
      try go_simp
      have K1 := H_ (J.out.go ((Below.refl _ _).alloc (Nat.le_refl _) (.cells #[.int .i64 131, .int .i64 4, .int .i64 1, .int .i64 4294967295, .string ⟨#[0, 0, 0, 1]⟩] 136 (0, 0)))); have HN := H_ (at1 U (.cells #[.int .i64 131, .int .i64 4, .int .i64 1, .int .i64 4294967295, .string ⟨#[0, 0, 0, 1]⟩] 136 (0, 0))); have HSv : (fun X : World => X.cell? ⟨sb, 1, none⟩ = some (.slice wa 2 wc)) (U.alloc (.cells #[.int .i64 131, .int .i64 4, .int .i64 1, .int .i64 4294967295, .string ⟨#[0, 0, 0, 1]⟩] 136 (0, 0))) := cellOf K1.out.sbk 1 _ rfl; refine hK _ _ (fun _ => HSv) ?_
      try simp only [aZ, aA, aE, aB, aC, aD]
      clear HSv; refine hend 5 ?_; simp only [aF, aG]
      go_wp2_with (first
       | (
        at_builtin; refine wpl_append_rules rfl _ _ rfl _ [⟨3, 4, 1, 4294967295, ⟨#[0, 0, 0, 1]⟩⟩, ⟨129, 4, 1, 4294967295, ⟨#[0, 0, 0, 1]⟩⟩] rfl K1.out.wrow _ [⟨131, 4, 1, 4294967295, ⟨#[0, 0, 0, 1]⟩⟩] rfl ((RRow.one ⟨131, 4, 1, 4294967295, ⟨#[0, 0, 0, 1]⟩⟩ HN.out (Nat.le_refl _)).rls (show 1 <= maxLen by decide)) (by intro n c h; cases h) (by simp) K1.out.sz ?_
        intro wv2 T r5 k5 o5; obtain ⟨wb, wd, rfl⟩ := r5.form; have r5 : RRow T _ (.slice wb 3 wd) [⟨3, 4, 1, 4294967295, ⟨#[0, 0, 0, 1]⟩⟩, ⟨129, 4, 1, 4294967295, ⟨#[0, 0, 0, 1]⟩⟩, ⟨131, 4, 1, 4294967295, ⟨#[0, 0, 0, 1]⟩⟩] := r5; have o5 : (Value.ownBlock (.slice wb 3 wd) = _ \/ _) := o5; have I1 := H_ (K1.out.appW k5 r5 o5); have y4 := (k5.block sb (Array.getElem?_eq_some_iff.1 K1.out.sbk).1 (fun he => (K1.out.nw sb he).1 rfl)).trans K1.out.sbk; have u2 := cellOf y4 1 _ rfl; have f2 := fun o => fzOf y4 o; have s0 := cellOf I1.out.sbk 0 _ rfl; have K2 := H_ (I1.out.go ((Below.refl _ _).alloc (Nat.le_refl _) (.cells #[.int .i64 131, .string ⟨#[0, 0, 0, 0]⟩] 132 (0, 0)))); have HN2 := H_ (show ((T.setCell ⟨sb, 1, none⟩ (.slice wb 3 wd)).alloc (.cells #[.int .i64 131, .string ⟨#[0, 0, 0, 0]⟩] 132 (0, 0))).heap[T.heap.size]? = some (.cells #[.int .i64 131, .string ⟨#[0, 0, 0, 0]⟩] 132 (0, 0)) from by rw [<- setCell_size T ⟨sb, 1, none⟩ (.slice wb 3 wd)]; exact at1 _ _)
        clear r5 k5 o5 y4)
       | (
        at_builtin; refine wpl_append_opt rfl _ _ rfl _ [⟨3, ⟨#[0, 0, 0, 0]⟩⟩, ⟨129, ⟨#[0, 0, 0, 0]⟩⟩] rfl K2.out.orow _ 1 131 ⟨#[0, 0, 0, 0]⟩ rfl HN2.out (by simp) K2.out.sz ?_
        intro og od T2 r6 k6 o6; have r6 : ORow T2 _ (.slice (some ⟨og, 0, none⟩) 3 od) [⟨3, ⟨#[0, 0, 0, 0]⟩⟩, ⟨129, ⟨#[0, 0, 0, 0]⟩⟩, ⟨131, ⟨#[0, 0, 0, 0]⟩⟩] := r6; have I2 := H_ (K2.out.appO k6 r6 (o6.elim (fun h => Or.inl h.symm) (fun h => Or.inr (congrArg some h)))); have y5 := (k6.block sb (Array.getElem?_eq_some_iff.1 K2.out.sbk).1 (fun he => (K2.out.no sb he).1 rfl)).trans K2.out.sbk; have u3 := cellOf y5 0 _ rfl; have f3 := fun o => fzOf y5 o
        clear r6 k6 o6 y5))
      go_roundg (3 - (2 + 1))
      case measure => omega
      case rel => exact ⟨3, by omega, rfl, by go_num, _, _, I2.out⟩
    . obtain ⟨ov, wv, hI⟩ := hK.out; obtain ⟨oa, oc, rfl⟩ := hI.orow.form; obtain ⟨wa, wc, rfl⟩ := hI.wrow.form; have hI : CliI w wr sb ib rb mb (.slice oa 3 oc) (.slice wa 3 wc) [⟨3, ⟨#[0, 0, 0, 0]⟩⟩, ⟨129, ⟨#[0, 0, 0, 0]⟩⟩, ⟨131, ⟨#[0, 0, 0, 0]⟩⟩] [⟨3, 4, 1, 4294967295, ⟨#[0, 0, 0, 1]⟩⟩, ⟨129, 4, 1, 4294967295, ⟨#[0, 0, 0, 1]⟩⟩, ⟨131, 4, 1, 4294967295, ⟨#[0, 0, 0, 1]⟩⟩] cf tm fl wt := hI; have s0 := cellOf hI.sbk 0 _ rfl; have s1 := cellOf hI.sbk 1 _ rfl; have s2 := cellOf hI.sbk 2 _ rfl; have s3 := cellOf hI.sbk 3 _ rfl; have s4 := cellOf hI.sbk 4 _ rfl; have s5 := cellOf hI.sbk 5 _ rfl; have s6 := cellOf hI.sbk 6 _ rfl; have s7 := cellOf hI.sbk 7 _ rfl; have hO : Rls wr (fun b => w.heap.size <= b) _ [⟨3, 4, 1, 4294967295, ⟨#[0, 0, 0, 1]⟩⟩, ⟨129, 4, 1, 4294967295, ⟨#[0, 0, 0, 1]⟩⟩, ⟨131, 4, 1, 4294967295, ⟨#[0, 0, 0, 1]⟩⟩] := Rec.mono (hI.wrow.rls (by unfold maxLen; simp)) (fun b hb => hb); have hP : Rls wr (fun b => w.heap.size <= b) _ [⟨3, 4, 0, 4294967295, ⟨#[0, 0, 0, 0]⟩⟩] := Rec.mono ((RRow.one ⟨3, 4, 0, 4294967295, ⟨#[0, 0, 0, 0]⟩⟩ hI.rbk hI.hs.2.2.1).rls (show 1 <= maxLen by decide)) (fun b hb => hb); have hM : Nums wr (fun b => w.heap.size <= b) _ [3] := Rec.mono ((NRow.one 3 hI.mbk hI.hs.2.2.2).nums (show 1 <= maxLen by decide)) (fun b hb => hb); have hN := new_at [⟨3, ⟨#[0, 0, 0, 0]⟩⟩, ⟨129, ⟨#[0, 0, 0, 0]⟩⟩, ⟨131, ⟨#[0, 0, 0, 0]⟩⟩] [⟨3, 4, 1, 4294967295, ⟨#[0, 0, 0, 1]⟩⟩, ⟨129, 4, 1, 4294967295, ⟨#[0, 0, 0, 1]⟩⟩, ⟨131, 4, 1, 4294967295, ⟨#[0, 0, 0, 1]⟩⟩] [⟨3, 4, 0, 4294967295, ⟨#[0, 0, 0, 0]⟩⟩] [3] _ _ _ _ (fun b => w.heap.size <= b) cf tm fl wt _ (hI.orow.opts (by unfold maxLen; simp)) hO hP hM (fun n c h => by have hR := hI.wrow; rw [h] at hR; exact hR.nil0) (fun n c h => by cases h) (by simp) (by simp) (by simp) (inB20_true.2 HA.out.1) (inB20_true.2 HA.out.2.1) HA.out.2.2.1.1 HA.out.2.2.1.2 HA.out.2.2.2.1 HA.out.2.2.2.2 (by decide) (by kernel_rfl) (by kernel_rfl) (by decide) (by kernel_rfl); have HN := H_ hN; have HBL := H_ hI.bl; clear hN hI hO hP hM hK; go_wp2_with fail; refine HN.out.mono ?_; rintro e w9 ⟨v, rfl, B, jb, rfl, h1, h2, h3, h4, h5⟩; have H9 := H_ (A_ h1 (A_ h2 (A_ h3 (A_ h4 h5)))); clear h1 h2 h3 h4 h5; go_wp2_with fail; go_ret2; have hsz := HBL.out.size; exact ⟨_, rfl, B, jb, rfl, H9.out.1.mono (fun b hb => Nat.le_trans hsz hb), H9.out.2.1, Nat.le_trans hsz H9.out.2.2.1, H9.out.2.2.2.1, HBL.out.trans (H9.out.2.2.2.2.mono hsz)⟩
end Go.Proofs.YtbiaempeegfdkaaGreat
