import Derived.Test.YtijepfjfmpmfnaaV60
/- A nak is taken: what its steps do. -/
namespace Go.Proofs.Ytijepfjfmpmfnaa
open Go.RowKit Go.Tg Go.Maps

/-- What one named option does to the request. -/
def nameOne (C : NegC) (req : List Opt) (o : Opt) : List Opt :=
  if idxP (fun x => x.t == o.t) req < 0 then req
  else if (findR C.own o.t).isSome && fitsR (ruleOf C.own o.t) o.v then req.set (idxP (fun x => x.t == o.t) req).toNat o
  else if hasB C.must o.t then req else req.eraseIdx (idxP (fun x => x.t == o.t) req).toNat
def namedS (rej : Pk → ByteArray) (C : NegC) (st : NSt) (p : Pk) : NSt × List Pk := evS rej C { st with req := p.o.foldl (nameOne C) st.req } 9 ⟨true, p, 0, []⟩
theorem nameOne_len (C : NegC) (req : List Opt) (o : Opt) : (nameOne C req o).length ≤ req.length := by
  unfold nameOne
  split
  · exact Nat.le_refl _
  · split
    · rw [List.length_set]; exact Nat.le_refl _
    · split
      · exact Nat.le_refl _
      · exact List.length_eraseIdx_le _ _

set_option maxHeartbeats 2000000 in
theorem named1_any (x : Opt) (k : Int) (kb : Nat) (w : World) (hk : w.cell? ⟨kb, 0, none⟩ = some (.int .i64 k)) :
    Calls Try.prog 84 #[.agg #[.int .i64 x.t, .string x.v], .pointer (some ⟨kb, 0, none⟩)] w fun e w' => e = .returned (.bool (x.t == k)) ∧ Below w.heap.size w w' := by
  obtain ⟨t, v⟩ := x
  have hk' : (w.alloc (.cells #[.int .i64 t, .string v] 46 (0, 0))).cell? ⟨kb, 0, none⟩ = some (.int .i64 k) := by go_keep
  clear hk
  go_enter Try.func84, Try.ntmps84
  go_wp2_with fail
  go_ret
  exact ⟨rfl, (Below.refl _ _).alloc (Nat.le_refl _) _⟩

theorem ORow.blk {w : World} {v : Value} {l : List Opt} (h : ORow w 0 v l) (hne : 0 < l.length) : ∃ g cap cur, v = .slice (some ⟨g, 0, none⟩) l.length cap ∧ w.heap[g]? = some (.cells cur 46 (0, 0)) ∧ l.length ≤ cap ∧ cap ≤ maxLen ∧ cur.size = cap * 2 ∧ cur.toList.take (l.length * 2) = flatO l := by
  obtain ⟨_, ⟨h, h0⟩ | ⟨g, cap, cur, h1, _, h3, h4, h5, h6, h7⟩⟩ := h
  · omega
  · exact ⟨g, cap, cur, h1, h3, h4, h5, h6, h7⟩

/-- One value of the row turns in place. -/
theorem ORow.setV {w : World} {g cap : Nat} {cur : Array Value} {l : List Opt} {i : Nat} {o : Opt} (hb : w.heap[g]? = some (.cells cur 46 (0, 0))) (hc : l.length ≤ cap) (hm : cap ≤ maxLen) (hs : cur.size = cap * 2) (ht : cur.toList.take (l.length * 2) = flatO l) (hi : i < l.length) (hto : l[i].t = o.t) :
    ORow (w.setCell ⟨g, i * 2 + 1, none⟩ (.string o.v)) 0 (.slice (some ⟨g, 0, none⟩) l.length cap) (l.set i o) := by
  unfold ORow
  rw [List.length_set]
  refine ⟨by rw [optL_flen, List.length_set], Or.inr ⟨g, cap, _, rfl, Nat.zero_le _, blkSet hb, hc, hm, by simpa using hs, ?_⟩⟩
  have hfl := flatO_len (l.set i o)
  rw [List.length_set] at hfl
  apply List.ext_getElem?
  intro m
  by_cases hlt : m < l.length * 2
  · rw [List.getElem?_take_of_lt hlt]
    show (cur.setIfInBounds (i * 2 + 1) (Value.string o.v)).toList[m]? = _
    have hcm : cur.toList[m]? = (flatO l)[m]? := by rw [← ht, List.getElem?_take_of_lt hlt]
    have hcur : cur[m]? = (flatO l)[m]? := by rw [← hcm]; simp
    have key : ∀ (l : List Opt) (j : Nat) (hj : j < l.length), (flatO l)[j * 2]? = some (.int .i64 l[j].t) ∧ (flatO l)[j * 2 + 1]? = some (.string l[j].v) := fun l j hj => optL_at l j hj
    show _ = (flatO (l.set i o))[m]?
    rw [Array.getElem?_toList]
    have hj : m / 2 < l.length := by omega
    obtain ⟨q1, q2⟩ := key l (m / 2) hj
    obtain ⟨r1, r2⟩ := key (l.set i o) (m / 2) (by rw [List.length_set]; exact hj)
    rcases (show m = m / 2 * 2 ∨ m = m / 2 * 2 + 1 by omega) with h | h
    · rw [Array.getElem?_setIfInBounds_ne (by omega), hcur]
      rw [h, q1, r1]
      by_cases hij : i = m / 2
      · subst hij
        simp [hto]
      · simp [List.getElem_set, hij]
    · by_cases hij : i = m / 2
      · subst hij
        rw [← h] at r2
        rw [r2, show m / 2 * 2 + 1 = m by omega, Array.getElem?_setIfInBounds_self_of_lt (by omega)]
        simp
      · rw [Array.getElem?_setIfInBounds_ne (by omega), hcur]
        rw [h, q2, r2]
        simp [List.getElem_set, hij]
  · rw [List.getElem?_eq_none (by rw [List.length_take]; omega), List.getElem?_eq_none (by show (flatO (l.set i o)).length ≤ m; omega)]

section
variable {w : World} {S : Nat → Prop} {B : NegB} {C : NegC} {st : NSt} {X : NegX}
/-- Its request's row turns in place. -/
theorem NegAt.turnReq {w' : World} {l' : List Opt} (h : NegAt w S B C st X) (hk : Keep (fun b => X.req.ownBlock = some b) w w') (hr : ORow w' 0 X.req l') (hl : l'.length ≤ 30) : NegAt w' S B C { st with req := l' } X ∧ Keep B.t w w' := by
  have hT : ∀ b, X.req.ownBlock = some b → B.t b := fun b hb => .inr (.inr (h.rq b hb))
  have hk1 : Keep B.t w w' := hk.mono (fun b _ hb => hT b hb)
  have hn : ∀ b, b < w.heap.size → B.r S b → ¬ B.t b := fun b _ hb => hb.2
  exact ⟨{ h with blk := (hk.block B.nb h.nlt (fun he => h.ne2 (h.rq _ he).symm)).trans h.blk, aut := h.aut.keep hk (fun he => h.ne3 (h.rq _ he).symm), own := Rec.keep h.own hk1 hn, peer := Rec.keep h.peer hk1 hn, must := Rec.keep h.must hk1 hn,
                  req := hr, mine := Rec.keep h.mine hk1 hn, theirs := Rec.keep h.theirs hk1 hn, rlt := Nat.lt_of_lt_of_le h.rlt hk.size, lr := hl }, hk1⟩
end
end Go.Proofs.Ytijepfjfmpmfnaa
