import Derived.Test.YtijepfjfmpmfnaaV74
import Derived.Test.YtijepfjfmpmfnaaV67
/- NegAcks: what is acked, what opens (the state between two steps). -/
namespace Go.Proofs.Ytijepfjfmpmfnaa
open Go.RowKit Go.Tg Go.Maps

theorem PksAt.at {w : World} {ok : Nat → Prop} {m : Nat} {sa : Option Addr} {n c : Nat} {l : List Pk} (h : PksAt w ok m (.slice sa n c) l) (k : Nat) (hk : k < l.length) (hl : l.length ≤ 1000000) :
    n = l.length ∧ n ≤ c ∧ c ≤ maxLen ∧ ∃ b off po, sa = some ⟨b, off, none⟩ ∧ w.cell? ⟨b, off + k * 4, none⟩ = some (.int .i64 l[k].code) ∧ w.cell? ⟨b, off + k * 4 + 1, none⟩ = some (.int .i64 l[k].id) ∧ w.cell? ⟨b, off + k * 4 + 2, none⟩ = some po ∧ w.cell? ⟨b, off + k * 4 + 3, none⟩ = some (.string l[k].d) ∧ Opts w ok po l[k].o := by
  obtain ⟨L, h1, h2, h3⟩ := h
  have hL : L.length = l.length := by rw [← h1, List.length_map]
  have hr : Rec 4 w (fun b => m ≤ b) (.slice sa n c) (pkL L) := Rec.of_owns h2 (pkL_len L).symm (pkL_k L) (by unfold maxLen; omega)
  obtain ⟨b, off, e, hb, -, hn, hnc, hcm, hc⟩ := hr.at k (by rw [pkL_len]; omega)
  have ek : (pkL L)[k]'(by rw [pkL_len]; omega) = pkCells (L[k]'(by omega)) := by simp [pkL]
  have e1 : l[k] = (L[k]'(by omega)).1 := by subst h1; simp
  have g := fun j u (h : (pkCells (L[k]'(by omega)))[j]? = some u) => hc j u (by rw [ek]; exact h)
  rw [pkL_len, hL] at hn
  rw [e1]
  exact ⟨hn, hnc, hcm, b, off, (L[k]'(by omega)).2, e, g 0 _ rfl, g 1 _ rfl, g 2 _ rfl, g 3 _ rfl, h3 _ (List.getElem_mem _)⟩
theorem PksAt.below {w w' : World} {ok : Nat → Prop} {m : Nat} {v : Value} {l : List Pk} (h : PksAt w ok m v l) (hb : Below w.heap.size w w') : PksAt w' ok m v l := h.keep (Keep.of_below (fun _ => False) hb) (fun _ _ _ h => h)
theorem tickS_len (rej : Pk → ByteArray) (C : NegC) (st : NSt) : (tickS rej C st).2.length ≤ 20 := by
  unfold tickS
  split
  · split
    · exact Nat.zero_le _
    · unfold toldS
      exact Nat.le_trans (sayL_len _ _ _ _ _) (Nat.le_trans (tmoL_le _ _) (by decide))
  · exact Nat.zero_le _

/-- What stands granted to the peer is as it should be. -/
def GoodO (l : List Opt) : Prop := l.length ≤ 50 ∧ ∀ o ∈ l, o.t = 1 ∧ fitsR rule1 o.v = true ∧ o.v.size ≤ 400
/-- Between two steps. -/
structure AckI (w wr : World) (B : NegB) (C : NegC) (jb m : Nat) (x : Int × List Opt) (sv ov : Value) (out : List Pk) (st : NSt) : Prop where
  q : NegQ w wr B C st jb
  se : Opts wr (fun b => ¬ B.t b) sv x.2
  ou : PksAt wr (fun b => ¬ B.t b) m ov out
  ln : out.length ≤ 20
  iv : Inv st (scan x out)
  th : GoodO st.theirs
  tm : ∀ b, B.t b → b < m
  ms : m ≤ wr.heap.size
section
variable {w wr w' : World} {B : NegB} {C : NegC} {jb m : Nat} {x y : Int × List Opt} {sv ov : Value} {out : List Pk} {st : NSt}
theorem NegQ.below {st : NSt} (h : NegQ w wr B C st jb) (hb : Below wr.heap.size wr w') : NegQ w w' B C st jb := by
  obtain ⟨⟨S, n, m⟩, b⟩ := h
  exact ⟨⟨S, n.below hb, m⟩, b.trans (hb.mono b.size)⟩
theorem AckI.below (h : AckI w wr B C jb m x sv ov out st) (hb : Below wr.heap.size wr w') : AckI w w' B C jb m x sv ov out st :=
  ⟨h.q.below hb, h.se.below hb, h.ou.below hb, h.ln, h.iv, h.th, h.tm, Nat.le_trans h.ms hb.size⟩
/-- All the packets are looked at. -/
theorem AckI.seen (h : AckI w wr B C jb m x sv ov out st) (hy : scan x out = y) {sv' : Value} (hs : Opts wr (fun b => ¬ B.t b) sv' y.2) : AckI w wr B C jb m y sv' (.slice none 0 0) [] st :=
  ⟨h.q, hs, PksAt.nil _ _ _, Nat.zero_le _, by rw [← hy]; exact h.iv, h.th, h.tm, h.ms⟩
theorem AckI.ev (h : AckI w wr B C jb m x sv (.slice none 0 0) [] st) {ok S : Nat → Prop} {r : NSt × List Pk} {e : Ending} (hn : NegP wr S B C st jb) (hS : ∀ b, S b → w.heap.size ≤ b) (hok : ∀ b, ok b → b < w.heap.size) (he : EvP wr w' S ok B C jb r e) (hl : r.2.length ≤ 20) (hi : Inv st x → Inv r.1 (scan x r.2)) (ht : GoodO r.1.theirs) :
    ∃ v, e = .returned v ∧ AckI w w' B C jb m x sv v r.2 r.1 ∧ Keep B.t wr w' := by
  obtain ⟨v, rfl, p, hn', k⟩ := he
  have hB : ∀ b, B.t b → w.heap.size ≤ b := fun b hb => hS b (hn.ts hb)
  exact ⟨v, rfl, ⟨NegQ.ev h.q.2 hS hn hn' k, Rec.keep h.se k (fun _ _ h => h), p.loosen h.ms (fun b _ hb ht => hb.elim (fun hb => by have := hok b hb; have := hB b ht; omega) (fun hb => by have := h.tm b ht; have := h.ms; omega)), hl, hi h.iv, ht, h.tm, Nat.le_trans h.ms k.size⟩, k⟩
end
theorem good_take {C : NegC} {st : NSt} {p : Pk} {r : NSt × List Pk} (hC : C.peer = [rule1]) (h : TakeF C st p r) (hg : GoodO st.theirs) (hp : p.o.length ≤ 50 ∧ ∀ o ∈ p.o, o.v.size ≤ 400) : GoodO r.1.theirs := by
  rcases h.th with e | ⟨h1, e⟩
  · rw [e]; exact hg
  · rw [e]
    rw [hC] at h1
    exact ⟨hp.1, fun o ho => ⟨(judge_rule rule1 _ h1 o ho).1, (judge_rule rule1 _ h1 o ho).2, hp.2 o ho⟩⟩
end Go.Proofs.Ytijepfjfmpmfnaa
