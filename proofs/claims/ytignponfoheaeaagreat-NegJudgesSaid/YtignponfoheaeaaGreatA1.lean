import Derived.Test.YtignponfoheaeaaGreatE1
import Derived.Test.YtignponfoheaeaaGreatB2
/- Apart of a book in which are lists of ints, of options, of packets. -/
namespace Go.Proofs.YtignponfoheaeaaGreat
open Go.RowKit Go.Tg Go.Maps

/-- The book's cells. -/
def bookC (i1 i2 o1 o2 p1 p2 : Value) : Array Value := #[.slice none 0 0, .slice none 0 0, i1, i2, .slice none 0 0, .slice none 0 0, .slice none 0 0, .slice none 0 0, o1, o2, p1, p2, .slice none 0 0, .slice none 0 0, .slice none 0 0, .slice none 0 0, .slice none 0 0, .slice none 0 0, .slice none 0 0, .slice none 0 0, .slice none 0 0, .slice none 0 0, .slice none 0 0, .slice none 0 0, .slice none 0 0, .slice none 0 0, .slice none 0 0, .slice none 0 0, .slice none 0 0, .slice none 0 0, .slice none 0 0, .slice none 0 0, .slice none 0 0, .slice none 0 0, .slice none 0 0, .slice none 0 0]

structure ApartH (bb : Nat) (i1 i2 o1 o2 p1 p2 : Value) (P0 P1 P2 P3 : World → Prop) (P4 : Value → World → Prop) (P5 : Value → Value → World → Prop) (P6 : Value → Value → Value → World → Prop) : Prop where
  b0 : ∀ w, P0 w → w.heap[bb]? = some (.cells (bookC i1 i2 o1 o2 p1 p2) 42 (0, 0))
  b1 : ∀ w, P1 w → w.heap[bb]? = some (.cells (bookC i1 i2 o1 o2 p1 p2) 42 (0, 0))
  b2 : ∀ w, P2 w → w.heap[bb]? = some (.cells (bookC i1 i2 o1 o2 p1 p2) 42 (0, 0))
  b3 : ∀ w, P3 w → w.heap[bb]? = some (.cells (bookC i1 i2 o1 o2 p1 p2) 42 (0, 0))
  b4 : ∀ g w, P4 g w → w.heap[bb]? = some (.cells (bookC i1 i2 o1 o2 p1 p2) 42 (0, 0))
  b5 : ∀ g o w, P5 g o w → w.heap[bb]? = some (.cells (bookC i1 i2 o1 o2 p1 p2) 42 (0, 0))
  b6 : ∀ g o p w, P6 g o p w → w.heap[bb]? = some (.cells (bookC i1 i2 o1 o2 p1 p2) 42 (0, 0))
  sI : ∀ w, P0 w → Calls Tryz.prog 69 #[.pointer (some ⟨bb, 0, none⟩)] w fun e w' => e = .returned (.bool true) ∧ P0 w'
  sO : ∀ w, P0 w → Calls Tryz.prog 72 #[.pointer (some ⟨bb, 0, none⟩)] w fun e w' => e = .returned (.bool true) ∧ P0 w'
  sP : ∀ w, P0 w → Calls Tryz.prog 73 #[.pointer (some ⟨bb, 0, none⟩)] w fun e w' => e = .returned (.bool true) ∧ P0 w'
  pP : ∀ w, P0 w → Calls Tryz.prog 86 #[.pointer (some ⟨bb, 0, none⟩)] w fun e w' => (∃ r, e = .returned r) ∧ P1 w'
  pI : ∀ w, P1 w → Calls Tryz.prog 91 #[.pointer (some ⟨bb, 0, none⟩)] w fun e w' => (∃ r, e = .returned r) ∧ P2 w'
  pO : ∀ w, P2 w → Calls Tryz.prog 94 #[.pointer (some ⟨bb, 0, none⟩)] w fun e w' => (∃ r, e = .returned r) ∧ P3 w'
  gI : ∀ w, P3 w → Calls Tryz.prog 105 #[.pointer (some ⟨bb, 0, none⟩)] w fun e w' => ∃ g, e = .returned g ∧ P4 g w'
  gO : ∀ g w, P4 g w → Calls Tryz.prog 108 #[.pointer (some ⟨bb, 0, none⟩)] w fun e w' => ∃ o, e = .returned o ∧ P5 g o w'
  gP : ∀ g o w, P5 g o w → Calls Tryz.prog 109 #[.pointer (some ⟨bb, 0, none⟩)] w fun e w' => ∃ p, e = .returned p ∧ P6 g o p w'
  mI : ∀ g o p w, P6 g o p w → Calls Tryz.prog 123 #[g] w fun e w' => e = .returned (.bool true) ∧ P6 g o p w'
  mI' : ∀ g o p w, P6 g o p w → Calls Tryz.prog 123 #[i1] w fun e w' => e = .returned (.bool true) ∧ P6 g o p w'
  mO : ∀ g o p w, P6 g o p w → Calls Tryz.prog 126 #[o] w fun e w' => e = .returned (.bool true) ∧ P6 g o p w'
  mO' : ∀ g o p w, P6 g o p w → Calls Tryz.prog 126 #[o1] w fun e w' => e = .returned (.bool true) ∧ P6 g o p w'
  mP : ∀ g o p w, P6 g o p w → Calls Tryz.prog 127 #[p] w fun e w' => e = .returned (.bool true) ∧ P6 g o p w'
  mP' : ∀ g o p w, P6 g o p w → Calls Tryz.prog 127 #[p1] w fun e w' => e = .returned (.bool true) ∧ P6 g o p w'

theorem bcell {w : World} {bb : Nat} {cs : Array Value} {T : TypeId} (h : w.heap[bb]? = some (.cells cs T (0, 0))) (o : Nat) (v : Value) (hv : cs[o]? = some v) : w.cell? ⟨bb, o, none⟩ = some v := by
  simp [World.cell?, h, hv]

set_option maxHeartbeats 40000000 in
set_option maxRecDepth 100000 in
theorem apart_any {bb : Nat} {s1 s2 s3 : Option Addr} {n1 n2 n3 k1 k2 k3 : Nat} {i2 o2 p2 : Value} {P0 P1 P2 P3 : World → Prop} {P4 : Value → World → Prop} {P5 : Value → Value → World → Prop} {P6 : Value → Value → Value → World → Prop}
    (HH : Hid (ApartH bb (.slice s1 n1 k1) i2 (.slice s2 n2 k2) o2 (.slice s3 n3 k3) p2 P0 P1 P2 P3 P4 P5 P6)) (w : World) (HP : Hid (P0 w)) :
    Calls Tryz.prog 13 #[.pointer (some ⟨bb, 0, none⟩)] w fun e w' => e = .returned (.bool true) ∧ ∃ g o p, P6 g o p w' := by
  have HB := Lib.hid (HH.out.b0 _ HP.out)
  go_enter Tryz.func13, Tryz.ntmps13
  go_wp2_with fail
  refine (stillTexts_nil bb _ (bcell HB.out 0 _ rfl)).mono ?_
  rintro e w1 ⟨rfl, rfl⟩
  go_wp2_with fail
  refine (HH.out.sI _ HP.out).mono ?_
  rintro e w1 ⟨rfl, hp⟩
  clear HP HB
  have HP := Lib.hid hp
  have HB := Lib.hid (HH.out.b0 _ hp)
  clear hp
  go_wp2_with fail
  refine (stillEthers_nil bb _ (bcell HB.out 4 _ rfl)).mono ?_
  rintro e w1 ⟨rfl, rfl⟩
  go_wp2_with fail
  refine (stillTags_nil bb _ (bcell HB.out 6 _ rfl)).mono ?_
  rintro e w1 ⟨rfl, rfl⟩
  go_wp2_with fail
  refine (HH.out.sO _ HP.out).mono ?_
  rintro e w1 ⟨rfl, hp⟩
  clear HP HB
  have HP := Lib.hid hp
  have HB := Lib.hid (HH.out.b0 _ hp)
  clear hp
  go_wp2_with fail
  refine (HH.out.sP _ HP.out).mono ?_
  rintro e w1 ⟨rfl, hp⟩
  clear HP HB
  have HP := Lib.hid hp
  have HB := Lib.hid (HH.out.b0 _ hp)
  clear hp
  go_wp2_with fail
  refine (stillAvps_nil bb _ (bcell HB.out 12 _ rfl)).mono ?_
  rintro e w1 ⟨rfl, rfl⟩
  go_wp2_with fail
  refine (stillCtls_nil bb _ (bcell HB.out 14 _ rfl)).mono ?_
  rintro e w1 ⟨rfl, rfl⟩
  go_wp2_with fail
  refine (stillKeys_nil bb _ (bcell HB.out 16 _ rfl)).mono ?_
  rintro e w1 ⟨rfl, rfl⟩
  go_wp2_with fail
  refine (stillSessions_nil bb _ (bcell HB.out 18 _ rfl)).mono ?_
  rintro e w1 ⟨rfl, rfl⟩
  go_wp2_with fail
  refine (stillIds_nil bb _ (bcell HB.out 20 _ rfl)).mono ?_
  rintro e w1 ⟨rfl, rfl⟩
  go_wp2_with fail
  refine (stillGrams_nil bb _ (bcell HB.out 22 _ rfl)).mono ?_
  rintro e w1 ⟨rfl, rfl⟩
  go_wp2_with fail
  refine (stillSays_nil bb _ (bcell HB.out 24 _ rfl)).mono ?_
  rintro e w1 ⟨rfl, rfl⟩
  go_wp2_with fail
  refine (stillItems_nil bb _ (bcell HB.out 26 _ rfl)).mono ?_
  rintro e w1 ⟨rfl, rfl⟩
  go_wp2_with fail
  refine (stillLines_nil bb _ (bcell HB.out 28 _ rfl)).mono ?_
  rintro e w1 ⟨rfl, rfl⟩
  go_wp2_with fail
  refine (stillSeats_nil bb _ (bcell HB.out 30 _ rfl)).mono ?_
  rintro e w1 ⟨rfl, rfl⟩
  go_wp2_with fail
  refine (stillEvents_nil bb _ (bcell HB.out 32 _ rfl)).mono ?_
  rintro e w1 ⟨rfl, rfl⟩
  go_wp2_with fail
  refine (stillSteps_nil bb _ (bcell HB.out 34 _ rfl)).mono ?_
  rintro e w1 ⟨rfl, rfl⟩
  go_wp2_with fail
  refine (HH.out.pP _ HP.out).mono ?_
  rintro e w1 ⟨⟨r, rfl⟩, hp⟩
  clear HP HB
  have HP := Lib.hid hp
  have HB := Lib.hid (HH.out.b1 _ hp)
  clear hp
  go_wp2_with fail
  refine (putCtls_nil bb _ (bcell HB.out 14 _ rfl)).mono ?_
  rintro e w1 ⟨rfl, rfl⟩
  go_wp2_with fail
  refine (putSays_nil bb _ (bcell HB.out 24 _ rfl)).mono ?_
  rintro e w1 ⟨rfl, rfl⟩
  go_wp2_with fail
  refine (putSteps_nil bb _ (bcell HB.out 34 _ rfl)).mono ?_
  rintro e w1 ⟨rfl, rfl⟩
  go_wp2_with fail
  refine (putTexts_nil bb _ (bcell HB.out 0 _ rfl)).mono ?_
  rintro e w1 ⟨rfl, rfl⟩
  go_wp2_with fail
  refine (HH.out.pI _ HP.out).mono ?_
  rintro e w1 ⟨⟨r, rfl⟩, hp⟩
  clear HP HB
  have HP := Lib.hid hp
  have HB := Lib.hid (HH.out.b2 _ hp)
  clear hp
  go_wp2_with fail
  refine (putEthers_nil bb _ (bcell HB.out 4 _ rfl)).mono ?_
  rintro e w1 ⟨rfl, rfl⟩
  go_wp2_with fail
  refine (putTags_nil bb _ (bcell HB.out 6 _ rfl)).mono ?_
  rintro e w1 ⟨rfl, rfl⟩
  go_wp2_with fail
  refine (HH.out.pO _ HP.out).mono ?_
  rintro e w1 ⟨⟨r, rfl⟩, hp⟩
  clear HP HB
  have HP := Lib.hid hp
  have HB := Lib.hid (HH.out.b3 _ hp)
  clear hp
  go_wp2_with fail
  refine (putAvps_nil bb _ (bcell HB.out 12 _ rfl)).mono ?_
  rintro e w1 ⟨rfl, rfl⟩
  go_wp2_with fail
  refine (putKeys_nil bb _ (bcell HB.out 16 _ rfl)).mono ?_
  rintro e w1 ⟨rfl, rfl⟩
  go_wp2_with fail
  refine (putSessions_nil bb _ (bcell HB.out 18 _ rfl)).mono ?_
  rintro e w1 ⟨rfl, rfl⟩
  go_wp2_with fail
  refine (putIds_nil bb _ (bcell HB.out 20 _ rfl)).mono ?_
  rintro e w1 ⟨rfl, rfl⟩
  go_wp2_with fail
  refine (putGrams_nil bb _ (bcell HB.out 22 _ rfl)).mono ?_
  rintro e w1 ⟨rfl, rfl⟩
  go_wp2_with fail
  refine (putItems_nil bb _ (bcell HB.out 26 _ rfl)).mono ?_
  rintro e w1 ⟨rfl, rfl⟩
  go_wp2_with fail
  refine (putLines_nil bb _ (bcell HB.out 28 _ rfl)).mono ?_
  rintro e w1 ⟨rfl, rfl⟩
  go_wp2_with fail
  refine (putSeats_nil bb _ (bcell HB.out 30 _ rfl)).mono ?_
  rintro e w1 ⟨rfl, rfl⟩
  go_wp2_with fail
  refine (putEvents_nil bb _ (bcell HB.out 32 _ rfl)).mono ?_
  rintro e w1 ⟨rfl, rfl⟩
  go_wp2_with fail
  refine (growTexts_nil bb _ (bcell HB.out 0 _ rfl)).mono ?_
  rintro e w1 ⟨rfl, rfl⟩
  go_wp2_with fail
  refine (HH.out.gI _ HP.out).mono ?_
  rintro e w1 ⟨g, rfl, hp⟩
  clear HP HB
  have HP := Lib.hid hp
  have HB := Lib.hid (HH.out.b4 g _ hp)
  clear hp
  go_wp2_with fail
  refine (growEthers_nil bb _ (bcell HB.out 4 _ rfl)).mono ?_
  rintro e w1 ⟨rfl, rfl⟩
  go_wp2_with fail
  refine (growTags_nil bb _ (bcell HB.out 6 _ rfl)).mono ?_
  rintro e w1 ⟨rfl, rfl⟩
  go_wp2_with fail
  refine (HH.out.gO g _ HP.out).mono ?_
  rintro e w1 ⟨o, rfl, hp⟩
  clear HP HB
  have HP := Lib.hid hp
  have HB := Lib.hid (HH.out.b5 g o _ hp)
  clear hp
  go_wp2_with fail
  refine (HH.out.gP g o _ HP.out).mono ?_
  rintro e w1 ⟨p, rfl, hp⟩
  clear HP HB
  have HP := Lib.hid hp
  have HB := Lib.hid (HH.out.b6 g o p _ hp)
  clear hp
  go_wp2_with fail
  refine (growAvps_nil bb _ (bcell HB.out 12 _ rfl)).mono ?_
  rintro e w1 ⟨rfl, rfl⟩
  go_wp2_with fail
  refine (growCtls_nil bb _ (bcell HB.out 14 _ rfl)).mono ?_
  rintro e w1 ⟨rfl, rfl⟩
  go_wp2_with fail
  refine (growKeys_nil bb _ (bcell HB.out 16 _ rfl)).mono ?_
  rintro e w1 ⟨rfl, rfl⟩
  go_wp2_with fail
  refine (growSessions_nil bb _ (bcell HB.out 18 _ rfl)).mono ?_
  rintro e w1 ⟨rfl, rfl⟩
  go_wp2_with fail
  refine (growIds_nil bb _ (bcell HB.out 20 _ rfl)).mono ?_
  rintro e w1 ⟨rfl, rfl⟩
  go_wp2_with fail
  refine (growGrams_nil bb _ (bcell HB.out 22 _ rfl)).mono ?_
  rintro e w1 ⟨rfl, rfl⟩
  go_wp2_with fail
  refine (growSays_nil bb _ (bcell HB.out 24 _ rfl)).mono ?_
  rintro e w1 ⟨rfl, rfl⟩
  go_wp2_with fail
  refine (growItems_nil bb _ (bcell HB.out 26 _ rfl)).mono ?_
  rintro e w1 ⟨rfl, rfl⟩
  go_wp2_with fail
  refine (growLines_nil bb _ (bcell HB.out 28 _ rfl)).mono ?_
  rintro e w1 ⟨rfl, rfl⟩
  go_wp2_with fail
  refine (growSeats_nil bb _ (bcell HB.out 30 _ rfl)).mono ?_
  rintro e w1 ⟨rfl, rfl⟩
  go_wp2_with fail
  refine (growEvents_nil bb _ (bcell HB.out 32 _ rfl)).mono ?_
  rintro e w1 ⟨rfl, rfl⟩
  go_wp2_with fail
  refine (growSteps_nil bb _ (bcell HB.out 34 _ rfl)).mono ?_
  rintro e w1 ⟨rfl, rfl⟩
  have d0 := bcell HB.out 0 _ rfl
  have d2 := bcell HB.out 2 _ rfl
  have d4 := bcell HB.out 4 _ rfl
  have d6 := bcell HB.out 6 _ rfl
  have d8 := bcell HB.out 8 _ rfl
  have d10 := bcell HB.out 10 _ rfl
  have d12 := bcell HB.out 12 _ rfl
  have d14 := bcell HB.out 14 _ rfl
  have d16 := bcell HB.out 16 _ rfl
  have d18 := bcell HB.out 18 _ rfl
  have d20 := bcell HB.out 20 _ rfl
  have d22 := bcell HB.out 22 _ rfl
  have d24 := bcell HB.out 24 _ rfl
  have d26 := bcell HB.out 26 _ rfl
  have d28 := bcell HB.out 28 _ rfl
  have d30 := bcell HB.out 30 _ rfl
  have d32 := bcell HB.out 32 _ rfl
  have d34 := bcell HB.out 34 _ rfl
  go_wp2_with fail
  refine (markedTexts_nil _).mono ?_
  rintro e w1 ⟨rfl, rfl⟩
  go_wp2_with fail
  refine (markedTexts_nil _).mono ?_
  rintro e w1 ⟨rfl, rfl⟩
  go_wp2_with fail
  refine (HH.out.mI _ _ _ _ HP.out).mono ?_
  rintro e w1 ⟨rfl, hp⟩
  clear d0 d2 d4 d6 d8 d10 d12 d14 d16 d18 d20 d22 d24 d26 d28 d30 d32 d34
  clear HP HB
  have HP := Lib.hid hp
  have HB := Lib.hid (HH.out.b6 _ _ _ _ hp)
  clear hp
  have d0 := bcell HB.out 0 _ rfl
  have d2 := bcell HB.out 2 _ rfl
  have d4 := bcell HB.out 4 _ rfl
  have d6 := bcell HB.out 6 _ rfl
  have d8 := bcell HB.out 8 _ rfl
  have d10 := bcell HB.out 10 _ rfl
  have d12 := bcell HB.out 12 _ rfl
  have d14 := bcell HB.out 14 _ rfl
  have d16 := bcell HB.out 16 _ rfl
  have d18 := bcell HB.out 18 _ rfl
  have d20 := bcell HB.out 20 _ rfl
  have d22 := bcell HB.out 22 _ rfl
  have d24 := bcell HB.out 24 _ rfl
  have d26 := bcell HB.out 26 _ rfl
  have d28 := bcell HB.out 28 _ rfl
  have d30 := bcell HB.out 30 _ rfl
  have d32 := bcell HB.out 32 _ rfl
  have d34 := bcell HB.out 34 _ rfl
  go_wp2_with fail
  refine (HH.out.mI' _ _ _ _ HP.out).mono ?_
  rintro e w1 ⟨rfl, hp⟩
  clear d0 d2 d4 d6 d8 d10 d12 d14 d16 d18 d20 d22 d24 d26 d28 d30 d32 d34
  clear HP HB
  have HP := Lib.hid hp
  have HB := Lib.hid (HH.out.b6 _ _ _ _ hp)
  clear hp
  have d0 := bcell HB.out 0 _ rfl
  have d2 := bcell HB.out 2 _ rfl
  have d4 := bcell HB.out 4 _ rfl
  have d6 := bcell HB.out 6 _ rfl
  have d8 := bcell HB.out 8 _ rfl
  have d10 := bcell HB.out 10 _ rfl
  have d12 := bcell HB.out 12 _ rfl
  have d14 := bcell HB.out 14 _ rfl
  have d16 := bcell HB.out 16 _ rfl
  have d18 := bcell HB.out 18 _ rfl
  have d20 := bcell HB.out 20 _ rfl
  have d22 := bcell HB.out 22 _ rfl
  have d24 := bcell HB.out 24 _ rfl
  have d26 := bcell HB.out 26 _ rfl
  have d28 := bcell HB.out 28 _ rfl
  have d30 := bcell HB.out 30 _ rfl
  have d32 := bcell HB.out 32 _ rfl
  have d34 := bcell HB.out 34 _ rfl
  go_wp2_with fail
  refine (markedEthers_nil _).mono ?_
  rintro e w1 ⟨rfl, rfl⟩
  go_wp2_with fail
  refine (markedEthers_nil _).mono ?_
  rintro e w1 ⟨rfl, rfl⟩
  go_wp2_with fail
  refine (markedTags_nil _).mono ?_
  rintro e w1 ⟨rfl, rfl⟩
  go_wp2_with fail
  refine (markedTags_nil _).mono ?_
  rintro e w1 ⟨rfl, rfl⟩
  go_wp2_with fail
  refine (HH.out.mO _ _ _ _ HP.out).mono ?_
  rintro e w1 ⟨rfl, hp⟩
  clear d0 d2 d4 d6 d8 d10 d12 d14 d16 d18 d20 d22 d24 d26 d28 d30 d32 d34
  clear HP HB
  have HP := Lib.hid hp
  have HB := Lib.hid (HH.out.b6 _ _ _ _ hp)
  clear hp
  have d0 := bcell HB.out 0 _ rfl
  have d2 := bcell HB.out 2 _ rfl
  have d4 := bcell HB.out 4 _ rfl
  have d6 := bcell HB.out 6 _ rfl
  have d8 := bcell HB.out 8 _ rfl
  have d10 := bcell HB.out 10 _ rfl
  have d12 := bcell HB.out 12 _ rfl
  have d14 := bcell HB.out 14 _ rfl
  have d16 := bcell HB.out 16 _ rfl
  have d18 := bcell HB.out 18 _ rfl
  have d20 := bcell HB.out 20 _ rfl
  have d22 := bcell HB.out 22 _ rfl
  have d24 := bcell HB.out 24 _ rfl
  have d26 := bcell HB.out 26 _ rfl
  have d28 := bcell HB.out 28 _ rfl
  have d30 := bcell HB.out 30 _ rfl
  have d32 := bcell HB.out 32 _ rfl
  have d34 := bcell HB.out 34 _ rfl
  go_wp2_with fail
  refine (HH.out.mO' _ _ _ _ HP.out).mono ?_
  rintro e w1 ⟨rfl, hp⟩
  clear d0 d2 d4 d6 d8 d10 d12 d14 d16 d18 d20 d22 d24 d26 d28 d30 d32 d34
  clear HP HB
  have HP := Lib.hid hp
  have HB := Lib.hid (HH.out.b6 _ _ _ _ hp)
  clear hp
  have d0 := bcell HB.out 0 _ rfl
  have d2 := bcell HB.out 2 _ rfl
  have d4 := bcell HB.out 4 _ rfl
  have d6 := bcell HB.out 6 _ rfl
  have d8 := bcell HB.out 8 _ rfl
  have d10 := bcell HB.out 10 _ rfl
  have d12 := bcell HB.out 12 _ rfl
  have d14 := bcell HB.out 14 _ rfl
  have d16 := bcell HB.out 16 _ rfl
  have d18 := bcell HB.out 18 _ rfl
  have d20 := bcell HB.out 20 _ rfl
  have d22 := bcell HB.out 22 _ rfl
  have d24 := bcell HB.out 24 _ rfl
  have d26 := bcell HB.out 26 _ rfl
  have d28 := bcell HB.out 28 _ rfl
  have d30 := bcell HB.out 30 _ rfl
  have d32 := bcell HB.out 32 _ rfl
  have d34 := bcell HB.out 34 _ rfl
  go_wp2_with fail
  refine (HH.out.mP _ _ _ _ HP.out).mono ?_
  rintro e w1 ⟨rfl, hp⟩
  clear d0 d2 d4 d6 d8 d10 d12 d14 d16 d18 d20 d22 d24 d26 d28 d30 d32 d34
  clear HP HB
  have HP := Lib.hid hp
  have HB := Lib.hid (HH.out.b6 _ _ _ _ hp)
  clear hp
  have d0 := bcell HB.out 0 _ rfl
  have d2 := bcell HB.out 2 _ rfl
  have d4 := bcell HB.out 4 _ rfl
  have d6 := bcell HB.out 6 _ rfl
  have d8 := bcell HB.out 8 _ rfl
  have d10 := bcell HB.out 10 _ rfl
  have d12 := bcell HB.out 12 _ rfl
  have d14 := bcell HB.out 14 _ rfl
  have d16 := bcell HB.out 16 _ rfl
  have d18 := bcell HB.out 18 _ rfl
  have d20 := bcell HB.out 20 _ rfl
  have d22 := bcell HB.out 22 _ rfl
  have d24 := bcell HB.out 24 _ rfl
  have d26 := bcell HB.out 26 _ rfl
  have d28 := bcell HB.out 28 _ rfl
  have d30 := bcell HB.out 30 _ rfl
  have d32 := bcell HB.out 32 _ rfl
  have d34 := bcell HB.out 34 _ rfl
  go_wp2_with fail
  refine (HH.out.mP' _ _ _ _ HP.out).mono ?_
  rintro e w1 ⟨rfl, hp⟩
  clear d0 d2 d4 d6 d8 d10 d12 d14 d16 d18 d20 d22 d24 d26 d28 d30 d32 d34
  clear HP HB
  have HP := Lib.hid hp
  have HB := Lib.hid (HH.out.b6 _ _ _ _ hp)
  clear hp
  have d0 := bcell HB.out 0 _ rfl
  have d2 := bcell HB.out 2 _ rfl
  have d4 := bcell HB.out 4 _ rfl
  have d6 := bcell HB.out 6 _ rfl
  have d8 := bcell HB.out 8 _ rfl
  have d10 := bcell HB.out 10 _ rfl
  have d12 := bcell HB.out 12 _ rfl
  have d14 := bcell HB.out 14 _ rfl
  have d16 := bcell HB.out 16 _ rfl
  have d18 := bcell HB.out 18 _ rfl
  have d20 := bcell HB.out 20 _ rfl
  have d22 := bcell HB.out 22 _ rfl
  have d24 := bcell HB.out 24 _ rfl
  have d26 := bcell HB.out 26 _ rfl
  have d28 := bcell HB.out 28 _ rfl
  have d30 := bcell HB.out 30 _ rfl
  have d32 := bcell HB.out 32 _ rfl
  have d34 := bcell HB.out 34 _ rfl
  go_wp2_with fail
  refine (markedAvps_nil _).mono ?_
  rintro e w1 ⟨rfl, rfl⟩
  go_wp2_with fail
  refine (markedAvps_nil _).mono ?_
  rintro e w1 ⟨rfl, rfl⟩
  go_wp2_with fail
  refine (markedCtls_nil _).mono ?_
  rintro e w1 ⟨rfl, rfl⟩
  go_wp2_with fail
  refine (markedCtls_nil _).mono ?_
  rintro e w1 ⟨rfl, rfl⟩
  go_wp2_with fail
  refine (markedKeys_nil _).mono ?_
  rintro e w1 ⟨rfl, rfl⟩
  go_wp2_with fail
  refine (markedKeys_nil _).mono ?_
  rintro e w1 ⟨rfl, rfl⟩
  go_wp2_with fail
  refine (markedSessions_nil _).mono ?_
  rintro e w1 ⟨rfl, rfl⟩
  go_wp2_with fail
  refine (markedSessions_nil _).mono ?_
  rintro e w1 ⟨rfl, rfl⟩
  go_wp2_with fail
  refine (markedIds_nil _).mono ?_
  rintro e w1 ⟨rfl, rfl⟩
  go_wp2_with fail
  refine (markedIds_nil _).mono ?_
  rintro e w1 ⟨rfl, rfl⟩
  go_wp2_with fail
  refine (markedGrams_nil _).mono ?_
  rintro e w1 ⟨rfl, rfl⟩
  go_wp2_with fail
  refine (markedGrams_nil _).mono ?_
  rintro e w1 ⟨rfl, rfl⟩
  go_wp2_with fail
  refine (markedSays_nil _).mono ?_
  rintro e w1 ⟨rfl, rfl⟩
  go_wp2_with fail
  refine (markedSays_nil _).mono ?_
  rintro e w1 ⟨rfl, rfl⟩
  go_wp2_with fail
  refine (markedItems_nil _).mono ?_
  rintro e w1 ⟨rfl, rfl⟩
  go_wp2_with fail
  refine (markedItems_nil _).mono ?_
  rintro e w1 ⟨rfl, rfl⟩
  go_wp2_with fail
  refine (markedLines_nil _).mono ?_
  rintro e w1 ⟨rfl, rfl⟩
  go_wp2_with fail
  refine (markedLines_nil _).mono ?_
  rintro e w1 ⟨rfl, rfl⟩
  go_wp2_with fail
  refine (markedSeats_nil _).mono ?_
  rintro e w1 ⟨rfl, rfl⟩
  go_wp2_with fail
  refine (markedSeats_nil _).mono ?_
  rintro e w1 ⟨rfl, rfl⟩
  go_wp2_with fail
  refine (markedEvents_nil _).mono ?_
  rintro e w1 ⟨rfl, rfl⟩
  go_wp2_with fail
  refine (markedEvents_nil _).mono ?_
  rintro e w1 ⟨rfl, rfl⟩
  go_wp2_with fail
  refine (markedSteps_nil _).mono ?_
  rintro e w1 ⟨rfl, rfl⟩
  go_wp2_with fail
  refine (markedSteps_nil _).mono ?_
  rintro e w1 ⟨rfl, rfl⟩
  go_wp2_with fail
  go_ret
  exact ⟨rfl, _, _, _, HP.out⟩
end Go.Proofs.YtignponfoheaeaaGreat
