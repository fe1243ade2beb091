import Derived.Test.YtkfcjcbjefpliaaN13
namespace Go.Proofs.Ytkfcjcbjefpliaa
open Go.RowKit Go.Tg Go.Maps Go.Sort

theorem flat_erase (l : List Gram) (k : Nat) : flat (l.eraseIdx k) = (flat l).take (k * 4) ++ (flat l).drop ((k + 1) * 4) := by
  rw [flat_take, flat_drop, ← flat_append, List.eraseIdx_eq_take_drop_succ]

theorem del_cells (l : List Gram) (k n cap : Nat) (cur cur5 cur6 : Array Value) (zs : List Value) (hn : n = l.length) (hk : k < n) (hcap : n ≤ cap) (hsz : cur.size = cap * 4) (htk : cur.toList.take (l.length * 4) = flat l) (hs5 : cur5.size = cur.size)
    (hg5 : ∀ j, j < cur.size → cur5[j]? = if 0 + k * 4 ≤ j ∧ j < 0 + k * 4 + ((flat l).drop ((k + 1) * 4)).length then ((flat l).drop ((k + 1) * 4))[j - (0 + k * 4)]? else cur[j]?)
    (hg6 : ∀ j, j < cur5.size → cur6[j]? = if (n - 1) * 4 ≤ j ∧ j < (n - 1) * 4 + zs.length then zs[j - (n - 1) * 4]? else cur5[j]?) (hs6 : cur6.size = cur5.size) : cur6.toList.take ((n - 1) * 4) = flat (l.eraseIdx k) := by
  have hfl := flat_len l
  have hdl : ((flat l).drop ((k + 1) * 4)).length = (n - (k + 1)) * 4 := by rw [List.length_drop, hfl]; omega
  rw [flat_erase]
  apply List.ext_getElem?
  intro j
  by_cases hj : j < (n - 1) * 4
  · rw [List.getElem?_take_of_lt hj]
    have h6 := hg6 j (by omega)
    rw [if_neg (by omega)] at h6
    have h5 := hg5 j (by omega)
    have e6 : cur6.toList[j]? = cur6[j]? := by simp
    rw [e6, h6, h5, hdl]
    by_cases hjk : k * 4 ≤ j
    · rw [if_pos (by omega), List.getElem?_append_right (by rw [List.length_take]; omega)]
      congr 1
      rw [List.length_take]
      omega
    · rw [if_neg (by omega), List.getElem?_append_left (by rw [List.length_take]; omega), List.getElem?_take_of_lt (by omega), ← htk, List.getElem?_take_of_lt (by omega)]
      simp
  · rw [List.getElem?_eq_none (by rw [List.length_take]; omega), List.getElem?_eq_none]
    rw [List.length_append, List.length_take, hdl]
    omega
end Go.Proofs.Ytkfcjcbjefpliaa
