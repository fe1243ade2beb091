import Derived.Test.YtoblffnlopmebaaGreatQAB
import Derived.Laws.AppendOwnNone
import Derived.Maps.AppendAt
set_option linter.unusedVariables false
set_option linter.unusedSimpArgs false
set_option maxHeartbeats 16000000
namespace Go.Tg
open Go Go.RowKit
def OwnI (TI : TypeId) (B : Nat) (w : World) (v : Value) (xs : List Int) : Prop := w.ownsRow B TI 1 v xs.length (xs.map (Value.int .i64))
def Rd (w : World) (N : Nat -> Prop) (sa : Option Addr) (xs : List Int) : Prop :=
 ∀ (i : Nat) (h : i < xs.length), ∃ b, sa = some ⟨b, 0, none⟩ /\ ¬ N b /\ b < w.heap.size /\ w.cell? ⟨b, i, none⟩ = some (.int .i64 xs[i])
theorem keep_of_grown {w w' : World} {row : Option Nat} (h : w.grownBy w' row) : Keep (fun k => row = some k) w w' :=
 ⟨h.os, h.tape, h.output, h.size, fun k hk hn => h.block k hk (fun e => hn e.symm)⟩
end Go.Tg
namespace Go.Tg
open Go Go.RowKit Go.Maps
def Rec (k : Nat) (w : World) (ok : Nat -> Prop) (v : Value) (xs : List (List Value)) : Prop :=
 (∀ x ∈ xs, x.length = k) /\ ∃ sa c, v = .slice sa xs.length c /\ xs.length <= c /\ c <= maxLen /\ (xs = [] \/ ∃ b off, sa = some ⟨b, off, none⟩ /\ b < w.heap.size /\ ok b /\
  ∀ i (h : i < xs.length) j u, (xs[i])[j]? = some u -> w.cell? ⟨b, off + i * k + j, none⟩ = some u)
section
variable {k : Nat} {w w' : World} {ok ok' : Nat -> Prop} {v : Value} {xs : List (List Value)}
theorem Rec.mono (h : Rec k w ok v xs) (hok : ∀ b, ok b -> ok' b) : Rec k w ok' v xs := by
 obtain ⟨h0, sa, c, hv, hc, hm, h | ⟨b, off, hs, hb, hk, hr⟩⟩ := h
 . exact ⟨h0, sa, c, hv, hc, hm, Or.inl h⟩
 . exact ⟨h0, sa, c, hv, hc, hm, Or.inr ⟨b, off, hs, hb, hok b hk, hr⟩⟩
theorem Rec.keep {T : Nat -> Prop} (h : Rec k w ok v xs) (hk : Keep T w w') (hT : ∀ b, b < w.heap.size -> ok b -> ¬ T b) : Rec k w' ok v xs := by
 obtain ⟨h0, sa, c, hv, hc, hm, h | ⟨b, off, hs, hb, hb', hr⟩⟩ := h
 . exact ⟨h0, sa, c, hv, hc, hm, Or.inl h⟩
 . exact ⟨h0, sa, c, hv, hc, hm, Or.inr ⟨b, off, hs, Nat.lt_of_lt_of_le hb hk.size, hb', fun i hi j u hu => (hk.cell (p := ⟨b, off + i * k + j, none⟩) hb (hT b hb hb')).trans (hr i hi j u hu)⟩⟩
theorem Rec.old (h : Rec k w ok v xs) : Rec k w (fun b => ok b /\ b < w.heap.size) v xs := by
 obtain ⟨h0, sa, c, hv, hc, hm, h | ⟨b, off, hs, hb, hb', hr⟩⟩ := h
 . exact ⟨h0, sa, c, hv, hc, hm, Or.inl h⟩
 . exact ⟨h0, sa, c, hv, hc, hm, Or.inr ⟨b, off, hs, hb, ⟨hb', hb⟩, hr⟩⟩
theorem Rec.nil (k : Nat) (w : World) (ok : Nat -> Prop) : Rec k w ok (.slice none 0 0) [] := ⟨(fun _ h => by cases h), none, 0, rfl, Nat.le_refl _, Nat.zero_le _, Or.inl rfl⟩
theorem Rec.form (h : Rec k w ok v xs) : ∃ sa c, v = .slice sa xs.length c /\ xs.length <= c /\ c <= maxLen := by
 obtain ⟨_, sa, c, hv, hc, hm, _⟩ := h; exact ⟨sa, c, hv, hc, hm⟩
theorem Rec.at {sa : Option Addr} {n c : Nat} (h : Rec k w ok (.slice sa n c) xs) (i : Nat) (hi : i < xs.length) : ∃ b off, sa = some ⟨b, off, none⟩ /\ b < w.heap.size /\ ok b /\ n = xs.length /\ n <= c /\ c <= maxLen /\
 ∀ j u, (xs[i])[j]? = some u -> w.cell? ⟨b, off + i * k + j, none⟩ = some u := by
 obtain ⟨h0, sa', c', hv, hc, hm, h | ⟨b, off, hs, hb, hb', hr⟩⟩ := h
 . subst h; exact absurd hi (Nat.not_lt_zero _)
 . cases hv
   exact ⟨b, off, hs, hb, hb', rfl, hc, hm, fun j u hu => hr i hi j u hu⟩
theorem flatten_at {k : Nat} : ∀ (xs : List (List Value)), (∀ x ∈ xs, x.length = k) -> ∀ (i : Nat) (h : i < xs.length) (j : Nat), j < k -> xs.flatten[i * k + j]? = (xs[i])[j]? := by
 intro xs
 induction xs with
 | nil => intro _ i h; exact absurd h (Nat.not_lt_zero _)
 | cons x xs ih =>
  intro hk i h j hj; have hx : x.length = k := hk x (List.mem_cons_self ..); rw [List.flatten_cons]
  cases i with
  | zero =>
   rw [Nat.zero_mul, Nat.zero_add, List.getElem?_append_left (by omega)]; rfl
  | succ i =>
   rw [List.getElem?_append_right (by rw [hx, Nat.succ_mul]; omega), hx, show (i + 1) * k + j - k = i * k + j from by rw [Nat.succ_mul]; omega]; exact ih (fun y hy => hk y (List.mem_cons_of_mem _ hy)) i (by simpa using h) j hj
theorem flatten_len {k : Nat} : ∀ (xs : List (List Value)), (∀ x ∈ xs, x.length = k) -> xs.flatten.length = xs.length * k := by
 intro xs
 induction xs with
 | nil => intro _; simp
 | cons x xs ih =>
  intro hk; rw [List.flatten_cons, List.length_append, hk x (List.mem_cons_self ..), ih (fun y hy => hk y (List.mem_cons_of_mem _ hy)), List.length_cons, Nat.succ_mul]; omega
theorem Rec.take {sa : Option Addr} {n c : Nat} (h : Rec k w ok (.slice sa n c) xs) (i : Nat) (hi : i <= xs.length) : Rec k w ok (.slice sa i c) (xs.take i) := by
 obtain ⟨h0, sa', c', hv, hc, hm, hr⟩ := h; cases hv
 have hl : (xs.take i).length = i := by rw [List.length_take]; omega
 refine ⟨fun x hx => h0 x (List.mem_of_mem_take hx), sa, c, by rw [hl], by omega, hm, ?_⟩
 rcases hr with rfl | ⟨b, off, hs, hb, hk, hr⟩
 . exact Or.inl (by simp)
 . refine Or.inr ⟨b, off, hs, hb, hk, fun j hj q u hu => hr j (by omega) q u ?_⟩
   rwa [List.getElem_take] at hu
theorem Rec.flat {ad : Addr} {n c : Nat} (hk : 0 < k) (h : Rec k w ok (.slice (some ad) n c) xs) : ∀ j u, xs.flatten[j]? = some u -> w.cell? (ad.add j) = some u := by
 intro j u hj; have h0 := h.1; have hlt : j < xs.length * k := by rw [<- flatten_len xs h0]; exact (List.getElem?_eq_some_iff.1 hj).1
 have hi : j / k < xs.length := (Nat.div_lt_iff_lt_mul hk).2 hlt; have hm : j % k < k := Nat.mod_lt _ hk; obtain ⟨b, off, hs, hb, _, _, _, _, hr⟩ := h.at (j / k) hi; cases hs
 have e : j / k * k + j % k = j := by rw [Nat.mul_comm]; exact Nat.div_add_mod j k
 have h7 := flatten_at xs h0 (j / k) hi (j % k) hm; rw [e, hj] at h7; have := hr (j % k) u h7.symm; rw [Nat.add_assoc, e] at this; rw [<- this, Addr.add_lit]
theorem Rec.of_owns {base : Nat} {E : TypeId} {n : Nat} (h : w.ownsRow base E k v n xs.flatten) (hn : n = xs.length) (h0 : ∀ x ∈ xs, x.length = k) (hm : n <= maxLen) : Rec k w (fun b => base <= b) v xs := by
 subst hn; obtain ⟨hl, ⟨hv, hz⟩ | ⟨g, cap, cur, hv, hb, hg, hc, hcm, hs, ht⟩⟩ := h
 . refine ⟨h0, none, 0, ?_, by omega, Nat.zero_le _, Or.inl (List.eq_nil_of_length_eq_zero hz)⟩; rw [hv, hz]
 . refine ⟨h0, _, cap, hv, hc, hcm, Or.inr ⟨g, 0, rfl, (Array.getElem?_eq_some_iff.1 hg).1, hb, ?_⟩⟩; intro i hi j u hu; have hj : j < k := by rw [<- h0 _ (List.getElem_mem hi)]; exact (List.getElem?_eq_some_iff.1 hu).1
   have h7 : (cur.toList.take (xs.length * k))[i * k + j]? = xs.flatten[i * k + j]? := by rw [ht]
   have hlt : i * k + j < xs.length * k := by
    have : (i + 1) * k <= xs.length * k := Nat.mul_le_mul_right _ hi; rw [Nat.succ_mul] at this; omega
   rw [List.getElem?_take_of_lt hlt, flatten_at xs h0 i hi j hj] at h7; simp only [World.cell?, hg, Nat.zero_add]; rw [<- hu, <- h7]; simp
end
end Go.Tg
