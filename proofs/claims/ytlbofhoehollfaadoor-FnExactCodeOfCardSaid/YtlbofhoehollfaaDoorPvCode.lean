/- Plain laws: the laws of CodeWord and CodeOf. -/
import Derived.Test.YtlbofhoehollfaaDoorPuA
import Derived.Test.YtlbofhoehollfaaDoorRdA
import Derived.Test.YtlbofhoehollfaaDoorDwCodeWord
import Derived.Test.YtlbofhoehollfaaDoorDwCodeOf
namespace Go.Am.YtlbofhoehollfaaDoor
open Go Go.Am

/-- The words of all codes. -/
def wordsL : List ByteArray := [⟨#[111, 107]⟩, ⟨#[98, 97, 100]⟩, ⟨#[108, 111, 110, 103]⟩, ⟨#[102, 111, 114, 109]⟩, ⟨#[115, 121, 110, 116, 97, 120]⟩, ⟨#[110, 97, 109, 101]⟩, ⟨#[116, 119, 105, 99, 101]⟩, ⟨#[118, 97, 114]⟩, ⟨#[115, 112, 105, 110, 101]⟩, ⟨#[108, 97, 109]⟩, ⟨#[116, 121, 112, 101]⟩, ⟨#[98, 105, 103]⟩, ⟨#[116, 121, 112, 101, 100]⟩, ⟨#[112, 97, 116, 116, 101, 114, 110]⟩, ⟨#[99, 108, 97, 115, 104]⟩, ⟨#[104, 111, 108, 101]⟩, ⟨#[114, 97, 110, 103, 101]⟩, ⟨#[109, 97, 110, 121]⟩, ⟨#[110, 111, 110, 101]⟩, ⟨#[114, 117, 108, 101]⟩]
theorem codeWords_eq : i_codeWords = some wordsL := by kernel_rfl
theorem specCodeWord_eq (c : Int) : s_CodeWord c = some (if c < 0 ∨ c ≥ 20 then ⟨#[]⟩ else wordsL.getD c.toNat ⟨#[]⟩) := by
  have e0 : s_CodeWord c = if c < 0 then some ⟨#[]⟩ else if c ≥ ((wordsL.length : Nat) : Int) then some ⟨#[]⟩ else (idx wordsL c).bind fun y4 => some y4 := rfl
  rw [e0]
  by_cases h : c < 0
  · rw [if_pos h, if_pos (.inl h)]
  · rw [if_neg h]
    by_cases h2 : c ≥ 20
    · rw [if_pos (show c ≥ ((wordsL.length : Nat) : Int) from h2), if_pos (.inr h2)]
    · rw [if_neg (show ¬ c ≥ ((wordsL.length : Nat) : Int) from h2), if_neg (by omega)]
      have hlt : c.toNat < wordsL.length := by show c.toNat < 20; omega
      unfold idx
      rw [if_pos (by omega), List.getElem?_eq_getElem hlt, bind_some', List.getD_eq_getElem?_getD, List.getElem?_eq_getElem hlt]
      rfl
theorem implCodeWord_eq (c : Int) : i_CodeWord c = some (if c < 0 ∨ c ≥ 20 then ⟨#[]⟩ else wordsL.getD c.toNat ⟨#[]⟩) := by
  have hin : i_in c 0 19 = some (decide (0 ≤ c) && decide (c ≤ 19)) := by
    unfold i_in
    by_cases h : c ≥ 0
    · rw [if_pos h, decide_eq_true (show 0 ≤ c from h)]; rfl
    · rw [if_neg h, decide_eq_false (show ¬ 0 ≤ c from h)]; rfl
  unfold i_CodeWord
  rw [hin, bind_some', codeWords_eq]
  by_cases h : c < 0 ∨ c ≥ 20
  · rw [if_pos h]
    have : (decide (0 ≤ c) && decide (c ≤ 19)) = false := by
      rcases h with h | h
      · rw [decide_eq_false (by omega)]; rfl
      · rw [decide_eq_false (show ¬ c ≤ 19 by omega), Bool.and_false]
    rw [this]; rfl
  · rw [if_neg h, decide_eq_true (show 0 ≤ c by omega), decide_eq_true (show c ≤ 19 by omega)]
    have hlt : c.toNat < wordsL.length := by show c.toNat < 20; omega
    rw [if_neg (show ¬ (!(true && true)) = true by decide), bind_some']
    unfold idx
    rw [if_pos (by omega), List.getElem?_eq_getElem hlt, bind_some', List.getD_eq_getElem?_getD, List.getElem?_eq_getElem hlt]
    rfl
theorem beq_refl_ba (s : ByteArray) : (s.toList == s.toList) = true := beq_self_eq_true _
theorem lawCodeWord_ev (c : Int) : w_FnExactCodeWord c = some true := by
  unfold w_FnExactCodeWord
  rw [specCodeWord_eq, implCodeWord_eq, bind_some', bind_some', beq_refl_ba]; rfl
theorem lawCodeWord_ok (c : Int) (_ : -9223372036854775808 ≤ c ∧ c ≤ 9223372036854775807) : ∀ tk, 2 ≤ tk → ACalls Go.Proofs.Tryd.prog 4 [.int .i64 c] (fun _ => none) tk (RetX (fun _ => none) tk (fun v _ => v = .bool true)) := by
  intro tk _
  exact w_FnExactCodeWord_ok c (lawCodeWord_ev c) _ tk

/-- The place of a word. -/
def findW (w : ByteArray) : List ByteArray → Int → Int
  | [], _ => -1
  | x :: r, i => if (w.toList == x.toList) = true then i else findW w r (i + 1)
theorem index_lp (l : List ByteArray) (w : ByteArray) (hl : l.length ≤ 1048576) : ∀ (r a : List ByteArray) (m : Nat), l = a ++ r → r.length < m → g_Index_X_L1 l w m a.length = some (findW w r a.length)
  | [], a, m, e, hm => by
    obtain ⟨m, rfl⟩ : ∃ k, m = k + 1 := ⟨m - 1, by omega⟩
    subst e
    rw [g_Index_X_L1, if_neg (lt_end a)]; rfl
  | y :: r, a, m, e, hm => by
    obtain ⟨m, rfl⟩ : ∃ k, m = k + 1 := ⟨m - 1, by omega⟩
    have e1 : (a.length : Int) < (l.length : Int) := by rw [e]; exact lt_mid a y r
    have e2 : idx l (a.length : Int) = some y := by rw [e]; exact idx_mid a y r
    have hw : IntKind.i64.wrap ((a.length : Int) + 1) = ((a ++ [y]).length : Int) := w64_mid a y r (by rw [← e]; omega)
    have ih := index_lp l w hl r (a ++ [y]) m (by simp [e]) (by simpa using hm)
    rw [g_Index_X_L1, if_pos e1, e2, bind_some', hw, ih]
    simp only [findW]
    rw [show ((a ++ [y]).length : Int) = (a.length : Int) + 1 by simp]
    by_cases h : (w.toList == y.toList) = true
    · rw [if_pos h, if_pos h]
    · rw [if_neg h, if_neg h]
theorem codeOf_lp (w : ByteArray) : ∀ (r a : List ByteArray) (m : Nat), wordsL = a ++ r → r.length < m → s_CodeOf_L1 w m a.length = some (findW w r a.length)
  | [], a, m, e, hm => by
    obtain ⟨m, rfl⟩ : ∃ k, m = k + 1 := ⟨m - 1, by omega⟩
    have hl : a.length = 20 := by have := congrArg List.length e; simp at this; exact this.symm
    rw [s_CodeOf_L1, if_neg (by omega)]; rfl
  | y :: r, a, m, e, hm => by
    obtain ⟨m, rfl⟩ : ∃ k, m = k + 1 := ⟨m - 1, by omega⟩
    have hl : a.length + (r.length + 1) = 20 := by have := congrArg List.length e; simp at this; exact this.symm
    have hy : wordsL.getD (a.length : Int).toNat ⟨#[]⟩ = y := by rw [e, List.getD_eq_getElem?_getD]; simp
    have ih := codeOf_lp w r (a ++ [y]) m (by simp [e]) (by simpa using hm)
    rw [s_CodeOf_L1, if_pos (by omega), specCodeWord_eq, if_neg (by omega), hy, bind_some', w64_eq (by omega) (by omega)]
    rw [show ((a.length : Int) + 1) = ((a ++ [y]).length : Int) by simp, ih]
    simp only [findW]
    rw [show ((a ++ [y]).length : Int) = (a.length : Int) + 1 by simp]
    by_cases h : y.toList = w.toList
    · rw [if_pos (show (y.toList == w.toList) = true from beq_iff_eq.2 h), if_pos (show (w.toList == y.toList) = true from beq_iff_eq.2 h.symm)]
    · rw [if_neg (fun q => h (beq_iff_eq.1 q)), if_neg (fun q => h (beq_iff_eq.1 q).symm)]
theorem lawCodeOf_ev (w : ByteArray) : Ev fun n => w_FnExactCodeOf n w = some true := by
  refine ⟨21, fun n hn => ?_⟩
  show w_FnExactCodeOf n w = some true
  have h1 : s_CodeOf n w = some (findW w wordsL 0) := codeOf_lp w wordsL [] n rfl (by show 20 < n; omega)
  have h2 : i_CodeOf n w = some (findW w wordsL 0) := by
    unfold i_CodeOf
    rw [codeWords_eq, bind_some']
    unfold g_Index_X
    rw [show g_Index_X_L1 wordsL w n 0 = some (findW w wordsL 0) from index_lp wordsL w (by decide) wordsL [] n rfl (by show 20 < n; omega), bind_some']
  unfold w_FnExactCodeOf
  rw [h1, h2, bind_some', bind_some']
  split
  · rfl
  · rw [if_neg (by simp)]
theorem lawCodeOf_ok (w : ByteArray) (_ : w.size ≤ maxLen) : ∀ tk, 2 ≤ tk → ACalls Go.Proofs.Tryd.prog 5 [.str w] (fun _ => none) tk (RetX (fun _ => none) tk (fun v _ => v = .bool true)) := by
  intro tk _
  obtain ⟨n, hn⟩ := (lawCodeOf_ev w).get
  exact w_FnExactCodeOf_ok n w hn _ tk

end Go.Am.YtlbofhoehollfaaDoor
