import Derived.Test.YtidlldfppoelnaaV10
namespace Go.Proofs.Ytidlldfppoelnaa
open Go.RowKit Go.Tg Go.Maps

theorem any_idx {α : Type} (p : α → Bool) (l : List α) : decide (0 ≤ idxP p l) = l.any p := by
  rcases findIdx_cases p l with ⟨h1, h2⟩ | ⟨i, hi, h1, h2⟩
  · rw [h1]
    rw [List.find?_eq_none] at h2
    symm
    rw [show decide ((0 : Int) ≤ -1) = false from rfl, List.any_eq_false]
    intro x hx
    simpa using h2 x hx
  · rw [h1]
    have : p l[i] = true := List.find?_some h2
    symm
    rw [show decide ((0 : Int) ≤ (i : Int)) = true by simp, List.any_eq_true]
    exact ⟨_, List.getElem_mem hi, this⟩

set_option maxHeartbeats 1000000 in
theorem containsO_any (l : List Opt) (lv : Value) (ok : Nat → Prop) (g : Nat) (lb : Array Value) (p : Opt → Bool) (w : World) (hl : Opts w ok lv l) (hmax : l.length ≤ 1000000) (eg : ∀ args w, (callFunc g args).run Try.prog w = .ok (.enter g args) w)
    (hp : ∀ (W : World) (o : Opt), o ∈ l → Below w.heap.size w W → Calls Try.prog g (#[.agg #[.int .i64 o.t, .string o.v]] ++ lb) W fun e w' => e = .returned (.bool (p o)) ∧ Below w.heap.size w w') :
    Calls Try.prog 52 #[lv, .func (.func g) #[] lb] w fun e w' => e = .returned (.bool (l.any p)) ∧ Below w.heap.size w w' := by
  have HI := Lib.hid (idxO_any l lv ok g lb p w hl hmax eg hp)
  obtain ⟨sa, c, rfl, hc, hm⟩ := hl.form
  have HA := Lib.hid (any_idx p l)
  generalize idxP p l = i at HI HA
  clear hl hp
  go_enter Try.func52, Try.ntmps52
  go_wp2_with fail
  refine HI.out.mono ?_
  rintro e w' ⟨rfl, hb⟩
  go_wp2_with fail
  go_ret
  exact ⟨by rw [← HA.out]; rfl, hb⟩
set_option maxHeartbeats 1000000 in
theorem containsR_any (l : List Rl) (lv : Value) (ok : Nat → Prop) (g : Nat) (lb : Array Value) (p : Rl → Bool) (w : World) (hl : Rls w ok lv l) (hmax : l.length ≤ 1000000) (eg : ∀ args w, (callFunc g args).run Try.prog w = .ok (.enter g args) w)
    (hp : ∀ (W : World) (o : Rl), o ∈ l → Below w.heap.size w W → Calls Try.prog g (#[.agg #[.int .i64 o.t, .int .i64 o.len, .int .i64 o.min, .int .i64 o.max, .string o.s]] ++ lb) W fun e w' => e = .returned (.bool (p o)) ∧ Below w.heap.size w w') :
    Calls Try.prog 58 #[lv, .func (.func g) #[] lb] w fun e w' => e = .returned (.bool (l.any p)) ∧ Below w.heap.size w w' := by
  have HI := Lib.hid (idxR_any l lv ok g lb p w hl hmax eg hp)
  obtain ⟨sa, c, rfl, hc, hm⟩ := hl.form
  have HA := Lib.hid (any_idx p l)
  generalize idxP p l = i at HI HA
  clear hl hp
  go_enter Try.func58, Try.ntmps58
  go_wp2_with fail
  refine HI.out.mono ?_
  rintro e w' ⟨rfl, hb⟩
  go_wp2_with fail
  go_ret
  exact ⟨by rw [← HA.out]; rfl, hb⟩

/-- An option that cannot be laid. -/
def badO (o : Opt) : Bool := !(decide (1 ≤ o.t) && decide (o.t ≤ 255)) || decide (253 < o.v.size)
set_option maxHeartbeats 1000000 in
theorem bad_any (o : Opt) (w : World) (hv : o.v.size ≤ 100000) :
    Calls Try.prog 53 #[.agg #[.int .i64 o.t, .string o.v]] w fun e w' => e = .returned (.bool (badO o)) ∧ Below w.heap.size w w' := by
  obtain ⟨t, v⟩ := o
  simp only at hv
  have hb0 : Below w.heap.size w (w.alloc (.cells #[.int .i64 t, .string v] 46 (0, 0))) := (Below.refl _ _).alloc (Nat.le_refl _) _
  have HI := Lib.hid (fun W => in_any t 1 255 W)
  have HB := Lib.hid hb0
  have HQ := Lib.hid (show badO ⟨t, v⟩ = (!(decide (1 ≤ t) && decide (t ≤ 255)) || decide (253 < v.size)) from rfl)
  have hdv : decide ((253 : Int) < (v.size : Int)) = decide (253 < v.size) := by simp only [decide_eq_decide]; omega
  generalize (decide (1 ≤ t) && decide (t ≤ 255)) = y at HI HQ
  clear hb0
  go_enter Try.func53, Try.ntmps53
  go_wp2_with fail
  refine (HI.out _).mono ?_
  rintro e w' ⟨rfl, rfl⟩
  cases y with
  | true =>
    go_wp2_with fail
    go_ret
    exact ⟨by rw [HQ.out]; simp [hdv], HB.out⟩
  | false =>
    go_wp2_with fail
    go_ret
    exact ⟨by rw [HQ.out]; rfl, HB.out⟩

/-- A rule that names what it does not let be. -/
def wrongR (r : Rl) : Bool := decide (253 < r.s.size) || !fitsR r r.s
set_option maxHeartbeats 1000000 in
theorem wrong_any (r : Rl) (w : World) (hv : r.s.size ≤ 100000) :
    Calls Try.prog 60 #[.agg #[.int .i64 r.t, .int .i64 r.len, .int .i64 r.min, .int .i64 r.max, .string r.s]] w fun e w' => e = .returned (.bool (wrongR r)) ∧ Below w.heap.size w w' := by
  have HF := Lib.hid (fun W => fits_any r r.s W hv)
  have HQ := Lib.hid (show wrongR r = (decide (253 < r.s.size) || !fitsR r r.s) from rfl)
  generalize fitsR r r.s = y at HF HQ
  obtain ⟨t, ln, mn, mx, s⟩ := r
  simp only at hv HF HQ
  have hb0 : Below w.heap.size w (w.alloc (.cells #[.int .i64 t, .int .i64 ln, .int .i64 mn, .int .i64 mx, .string s] 48 (0, 0))) := (Below.refl _ _).alloc (Nat.le_refl _) _
  have HB := Lib.hid hb0
  have hdv : decide ((253 : Int) < (s.size : Int)) = decide (253 < s.size) := by simp only [decide_eq_decide]; omega
  generalize decide (253 < s.size) = z at hdv HQ
  clear hb0
  go_enter Try.func60, Try.ntmps60
  cases z with
  | true =>
    go_wp2_with fail
    go_ret
    exact ⟨by rw [HQ.out]; rfl, HB.out⟩
  | false =>
    go_wp2_with fail
    refine (HF.out _).mono ?_
    rintro e w' ⟨rfl, hb⟩
    have HB2 := Lib.hid (HB.out.trans (hb.mono (by rw [alloc1]; omega)))
    go_wp2_with fail
    go_ret
    exact ⟨by rw [HQ.out]; simp, HB2.out⟩
end Go.Proofs.Ytidlldfppoelnaa
