import Derived.Test.YthhdackaopaojaaGreatV44
/- say8: a request is refused. -/
namespace Go.Proofs.YthhdackaopaojaaGreat
open Go.RowKit Go.Tg Go.Maps

section
variable (rej : Pk → ByteArray) {w : World} {S ok : Nat → Prop} {B : NegB} {C : NegC} {st : NSt} {X : NegX} (c : Came) (po pa : Value)

set_option maxHeartbeats 4000000 in
set_option maxRecDepth 100000 in
theorem say8 (h : NegAt w S B C st X) (hc : CameAt w B ok c po pa) :
    Calls Tryz.prog 104 #[.pointer (some ⟨B.nb, 0, none⟩), .int .i64 8, cameV c po pa] w fun e w' => SayPost w w' S ok B C (sayS rej C st 8 c) e := by
  have hb1 : Below w.heap.size w (w.alloc (.cells #[.bool c.is, .int .i64 c.p.code, .int .i64 c.p.id, po, .string c.p.d, .int .i64 c.code, pa] 113 (0, 0))) := (Below.refl _ _).alloc (Nat.le_refl _) _
  have h1 := h.below hb1
  have hR := refuse_at c po pa h1 (hc.below hb1)
  have hz := at1 w (.cells #[.bool c.is, .int .i64 c.p.code, .int .i64 c.p.id, po, .string c.p.d, .int .i64 c.code, pa] 113 (0, 0))
  unfold cameV at hR
  have HR := Lib.hid hR
  have HB := Lib.hid hb1
  have es : sayS rej C st 8 c = ((refuseS C st c).1, [(refuseS C st c).2]) := rfl
  have hd0 : (refuseS C st c).2.d = noB := by unfold refuseS; repeat (first | rfl | split)
  have HD := Lib.hid hd0
  rw [es]
  generalize refuseS C st c = r at HR HD
  obtain ⟨st', p⟩ := r
  have c0 := cellOf hz 0 _ rfl
  have c1 := cellOf hz 1 _ rfl
  have c2 := cellOf hz 2 _ rfl
  have c3 := cellOf hz 3 _ rfl
  have c4 := cellOf hz 4 _ rfl
  have c5 := cellOf hz 5 _ rfl
  have c6 := cellOf hz 6 _ rfl
  unfold cameV
  clear hb1 h h1 es hz hR hd0
  go_enter Tryz.func104, Tryz.ntmps104
  go_wp2_with fail
  refine HR.out.mono ?_
  rintro e w2 ⟨vo, rfl, ho, hn, hk⟩
  have H2 := Lib.hid (And.intro ho (And.intro hn hk))
  clear ho hn hk
  unfold pkV
  go_wp2_with fail
  go_ret
  have hs1 := HB.out.size
  have hs2 := H2.out.2.2.size
  have hb3 := (Below.refl w2.heap.size w2).alloc (Nat.le_refl _) (.cells #[.int .i64 p.code, .int .i64 p.id, vo, .string p.d] 38 (0, 0))
  refine ⟨_, rfl, PksAt.one p vo (at1 w2 _) (by omega) ?_, ?_, ?_⟩
  · exact Rec.mono (Opts.below H2.out.1 hb3) (fun b hb => hb.elim .inl (fun h => .inr (by omega)))
  · exact (H2.out.2.1.below hb3).mono (fun b hb => hb.elim .inl (fun h => .inr (by omega)))
  · exact ((Keep.of_below _ HB.out).trans H2.out.2.2).alloc _
end

theorem say_less (rej : Pk → ByteArray) (B : NegB) (C : NegC) (ok : Nat → Prop) (c : Came) (po pa : Value) (a : Int) (h0 : 0 ≤ a) (h1 : a ≤ 12) (h11 : a ≠ 11) : SaySpec rej B C ok c po pa a := by
  by_cases h : a = 8
  · subst h
    intro w S st X h hc
    exact say8 rej c po pa h hc
  · exact say_most rej B C ok c po pa a h0 h1 h h11
end Go.Proofs.YthhdackaopaojaaGreat
