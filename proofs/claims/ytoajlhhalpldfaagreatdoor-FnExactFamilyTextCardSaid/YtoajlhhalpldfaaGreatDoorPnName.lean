/- Plain laws: what a name is, the program's way and the reference's. -/
import Derived.Test.YtoajlhhalpldfaaGreatDoorDnName
import Derived.Test.YtoajlhhalpldfaaGreatDoorPuA
import Derived.Test.YtoajlhhalpldfaaGreatDoorRdA
namespace Go.Am
open Go

def heads : List UInt8 := [97, 98, 99, 100, 101, 102, 103, 104, 105, 106, 107, 108, 109, 110, 111, 112, 113, 114, 115, 116, 117, 118, 119, 120, 121, 122, 65, 66, 67, 68, 69, 70, 71, 72, 73, 74, 75, 76, 77, 78, 79, 80, 81, 82, 83, 84, 85, 86, 87, 88, 89, 90, 95]
def digs : List UInt8 := [48, 49, 50, 51, 52, 53, 54, 55, 56, 57]
def isL (b : UInt8) : Bool := heads.contains b
def isD (b : UInt8) : Bool := digs.contains b

theorem byteAt_nat (l : List UInt8) (i : Nat) : byteAt ⟨⟨l⟩⟩ (i : Int) = (l[i]?).map fun b => (b.toNat : Int) := by
 unfold byteAt
 by_cases h : i < l.length
 ·have hs : 0 ≤ (i : Int) ∧ (i : Int) < ((⟨⟨l⟩⟩ : ByteArray).size : Int) := ⟨Int.natCast_nonneg _, by show (i : Int) < (l.length : Int); omega⟩
  rw [dif_pos hs, List.getElem?_eq_getElem h]
  rfl
 have hs : ¬ (0 ≤ (i : Int) ∧ (i : Int) < ((⟨⟨l⟩⟩ : ByteArray).size : Int)) := fun q => h (by have : (i : Int) < (l.length : Int) := q.2; omega)
 rw [dif_neg hs, List.getElem?_eq_none (by omega)]
 rfl
theorem byteAt_mid (a : List UInt8) (b : UInt8) (r : List UInt8) : byteAt ⟨⟨a ++ b :: r⟩⟩ (a.length : Int) = some (b.toNat : Int) := by
 rw [byteAt_nat]; simp

theorem index_contains (c : UInt8) : ∀ l : List UInt8, decide (Lib.indexByte l c ≥ 0) = l.contains c
 | [] => rfl
 | b :: l => by
  have ih := index_contains c l
  have hge := Lib.indexByte_ge l c
  unfold Lib.indexByte
  rw [List.contains_cons]
  by_cases h : b == c
  ·have h' : (c == b) = true := by rw [beq_iff_eq] at h ⊢; exact h.symm
   rw [if_pos h, h']; rfl
  have h' : (c == b) = false := by
   rw [Bool.eq_false_iff]; intro q; rw [beq_iff_eq] at q; exact h (by rw [q]; exact beq_self_eq_true b)
  rw [if_neg h, h', Bool.false_or, ← ih]
  by_cases h2 : (Lib.indexByte l c == -1) = true
  ·rw [if_pos h2]
   rw [beq_iff_eq] at h2
   rw [h2]
  rw [if_neg h2]
  have : Lib.indexByte l c ≠ -1 := fun q => h2 (by rw [q]; rfl)
  exact decide_eq_decide.2 (by omega)

theorem dropWhile_fix {α : Type} (p : α → Bool) : ∀ l : List α, (l.dropWhile p).dropWhile p = l.dropWhile p
 | [] => rfl
 | a :: l => by
  cases h : p a with
  | true => rw [List.dropWhile_cons_of_pos h]; exact dropWhile_fix p l
  | false => rw [List.dropWhile_cons_of_neg (by rw [h]; decide), List.dropWhile_cons_of_neg (by rw [h]; decide)]
theorem dropWhile_nil {α : Type} (p : α → Bool) : ∀ l : List α, l.dropWhile p = [] ↔ l.all p = true
 | [] => by simp
 | a :: l => by
  cases h : p a with
  | true => rw [List.dropWhile_cons_of_pos h, List.all_cons, h, Bool.true_and]; exact dropWhile_nil p l
  | false => rw [List.dropWhile_cons_of_neg (by rw [h]; decide), List.all_cons, h]; simp
theorem trimS_nil (l cs : List UInt8) : (Lib.trimS l cs == []) = l.all (cs.contains ·) := by
 have key : Lib.trimS l cs = [] ↔ l.all (cs.contains ·) = true := by
  unfold Lib.trimS Lib.trimLeftS Lib.trimRightS
  rw [dropWhile_nil, List.all_reverse]
  constructor
  ·intro h
   have h2 := (dropWhile_nil (cs.contains ·) _).2 h
   rw [dropWhile_fix] at h2
   have := (dropWhile_nil (cs.contains ·) l.reverse).1 h2
   rwa [List.all_reverse] at this
  intro h
  have : l.reverse.dropWhile (cs.contains ·) = [] := (dropWhile_nil _ _).2 (by rw [List.all_reverse]; exact h)
  rw [this]; rfl
 cases h : l.all (cs.contains ·) with
 | true => rw [key.2 h]; rfl
 | false =>
  have : Lib.trimS l cs ≠ [] := fun q => by rw [key.1 q] at h; cases h
  cases hq : Lib.trimS l cs with
  | nil => exact absurd hq this
  | cons a r => rfl

end Go.Am
namespace Go.Am.YtoajlhhalpldfaaGreatDoor
open Go Go.Am

theorem letter_nat : ∀ n : Nat, n < 256 → s_l00Letter (n : Int) = some (isL (UInt8.ofNat n)) := by decide +kernel
theorem digit_nat : ∀ n : Nat, n < 256 → s_l00Digit (n : Int) = some (isD (UInt8.ofNat n)) := by decide +kernel
theorem letter_eq (b : UInt8) : s_l00Letter (b.toNat : Int) = some (isL b) := by have := letter_nat b.toNat b.toNat_lt; rwa [UInt8.ofNat_toNat] at this
theorem digit_eq (b : UInt8) : s_l00Digit (b.toNat : Int) = some (isD b) := by have := digit_nat b.toNat b.toNat_lt; rwa [UInt8.ofNat_toNat] at this
theorem head_eq (b : UInt8) : i_isHead (b.toNat : Int) = some (isL b) := by
 unfold i_isHead g_IndexByte
 have h : ((b.toNat : Int).toNat.toUInt8) = b := by rw [Int.toNat_natCast]; exact UInt8.ofNat_toNat
 rw [bind_some', h]
 congr 1
 exact index_contains b heads

theorem over_eq (l cs : List UInt8) (hl : l.length ≤ 9223372036854775807) (hc : cs.length < 4294967281) (ha : cs.all (fun b => decide (b.toNat < 128)) = true) : i_over ⟨⟨l⟩⟩ ⟨⟨cs⟩⟩ = some (l.all (cs.contains ·)) := by
 unfold i_over g_Trim
 rw [if_pos ⟨hl, hc, ha⟩, bind_some', ← trimS_nil, Lib.toList_data, Lib.toList_data]

def wd (b : UInt8) : Bool := isL b || isD b
theorem wd_eq (b : UInt8) : (heads ++ digs).contains b = wd b := by rw [List.contains_append]; rfl

def nameB : List UInt8 → Bool
 | [] => false
 | h :: r => (decide (r.length + 1 ≤ 40) && (isL h && r.all wd)) && ((h :: r != [116, 121, 112, 101]) && ((h :: r != [95]) && (h != 120 || (r == [] || !(r.all isD)))))

theorem nameB_cons (h : UInt8) (r : List UInt8) : nameB (h :: r) = ((decide (r.length + 1 ≤ 40) && (isL h && r.all wd)) && ((h :: r != [116, 121, 112, 101]) && ((h :: r != [95]) && (h != 120 || (r == [] || !(r.all isD)))))) := rfl

theorem word_lp (l : List UInt8) (hl : l.length ≤ 40) : ∀ (r a : List UInt8) (m : Nat), l = a ++ r → r.length < m → s_l00Word_L1 ⟨⟨l⟩⟩ m a.length = some (r.all wd)
 | [], a, m, e, hm => by
  obtain ⟨m, rfl⟩ : ∃ k, m = k + 1 := ⟨m - 1, by omega⟩
  subst e
  rw [s_l00Word_L1, if_neg (by show ¬ (a.length : Int) < ((a ++ []).length : Int); simp)]; rfl
 | b :: r, a, m, e, hm => by
  obtain ⟨m, rfl⟩ : ∃ k, m = k + 1 := ⟨m - 1, by omega⟩
  have e1 : (a.length : Int) < ((⟨⟨l⟩⟩ : ByteArray).size : Int) := by show (a.length : Int) < (l.length : Int); rw [e]; exact lt_mid a b r
  have e2 : byteAt ⟨⟨l⟩⟩ (a.length : Int) = some (b.toNat : Int) := by rw [e]; exact byteAt_mid a b r
  have hw : IntKind.i64.wrap ((a.length : Int) + 1) = ((a ++ [b]).length : Int) := w64_mid a b r (by rw [← e]; omega)
  have ih := word_lp l hl r (a ++ [b]) m (by simp [e]) (by simpa using hm)
  rw [s_l00Word_L1, if_pos e1, e2, bind_some', bind_some', letter_eq, digit_eq, bind_some', bind_some', hw, ih, List.all_cons]
  unfold wd
  cases isL b <;> cases isD b <;> rfl

theorem word_eq (l : List UInt8) : Ev fun n => s_l00Word n ⟨⟨l⟩⟩ = some (match l with | [] => false | h :: r => decide (r.length + 1 ≤ 40) && (isL h && r.all wd)) := by
 refine ⟨l.length + 1, fun n hn => ?_⟩
 cases l with
 | nil => rfl
 | cons h r =>
  have hs : ((⟨⟨h :: r⟩⟩ : ByteArray).size : Int) = (r.length : Int) + 1 := by show (((h :: r).length : Nat) : Int) = _; simp
  unfold s_l00Word
  rw [hs, if_neg (by omega)]
  by_cases h40 : r.length + 1 ≤ 40
  ·have hb : byteAt ⟨⟨h :: r⟩⟩ 0 = some (h.toNat : Int) := byteAt_mid [] h r
   have hlp := word_lp (h :: r) (by simpa using h40) r [h] n rfl (by simp at hn; omega)
   have hlp : s_l00Word_L1 ⟨⟨h :: r⟩⟩ n 1 = some (r.all wd) := hlp
   rw [if_neg (by omega), hb, bind_some', letter_eq, bind_some', hlp]
   show _ = some (decide (r.length + 1 ≤ 40) && (isL h && r.all wd))
   rw [decide_eq_true h40]
   cases isL h <;> rfl
  rw [if_pos (by omega)]
  show _ = some (decide (r.length + 1 ≤ 40) && (isL h && r.all wd))
  rw [decide_eq_false h40]; rfl

theorem iword_eq (l : List UInt8) (hl : l.length ≤ 1048576) : i_wordOK ⟨⟨l⟩⟩ = some (match l with | [] => false | h :: r => decide (r.length + 1 ≤ 40) && (isL h && r.all wd)) := by
 unfold i_wordOK i_in
 cases l with
 | nil => rfl
 | cons h r =>
  have hs : ((⟨⟨h :: r⟩⟩ : ByteArray).size : Int) = (r.length : Int) + 1 := by show (((h :: r).length : Nat) : Int) = _; simp
  have hb : byteAt ⟨⟨h :: r⟩⟩ 0 = some (h.toNat : Int) := byteAt_mid [] h r
  have ho : i_over ⟨⟨h :: r⟩⟩ ⟨⟨heads ++ digs⟩⟩ = some ((h :: r).all ((heads ++ digs).contains ·)) := over_eq (h :: r) (heads ++ digs) (by omega) (by decide) (by decide)
  have ho : i_over ⟨⟨h :: r⟩⟩ (⟨#[97, 98, 99, 100, 101, 102, 103, 104, 105, 106, 107, 108, 109, 110, 111, 112, 113, 114, 115, 116, 117, 118, 119, 120, 121, 122, 65, 66, 67, 68, 69, 70, 71, 72, 73, 74, 75, 76, 77, 78, 79, 80, 81, 82, 83, 84, 85, 86, 87, 88, 89, 90, 95, 48, 49, 50, 51, 52, 53, 54, 55, 56, 57]⟩) = some ((h :: r).all ((heads ++ digs).contains ·)) := ho
  have ha : (h :: r).all ((heads ++ digs).contains ·) = (wd h && r.all wd) := by
   have : (fun b => (heads ++ digs).contains b) = wd := funext wd_eq
   rw [this, List.all_cons]
  rw [hs, if_pos (by omega), bind_some', hb, ho, ha]
  show _ = some (decide (r.length + 1 ≤ 40) && (isL h && r.all wd))
  by_cases h40 : r.length + 1 ≤ 40
  ·rw [decide_eq_true (show (r.length : Int) + 1 ≤ 40 by omega), if_pos rfl, bind_some', head_eq, bind_some', decide_eq_true h40]
   unfold wd
   cases isL h <;> rfl
  rw [decide_eq_false (show ¬ (r.length : Int) + 1 ≤ 40 by omega), decide_eq_false h40]; rfl

theorem xne (h : UInt8) : ((h.toNat : Int) != 120) = (h != 120) := by
 have key : ∀ n : Nat, n < 256 → ((n : Int) != 120) = (UInt8.ofNat n != 120) := by decide +kernel
 have := key h.toNat h.toNat_lt
 rwa [UInt8.ofNat_toNat] at this

theorem name_lp (h : UInt8) (tl : List UInt8) (hl : tl.length ≤ 40) : ∀ (r a : List UInt8) (m : Nat), tl = a ++ r → r.length < m → s_NameOK_L1 ⟨⟨h :: tl⟩⟩ m ((a.length : Int) + 1) = some (h != 120 || (!(r.all isD) || tl == []))
 | [], a, m, e, hm => by
  obtain ⟨m, rfl⟩ : ∃ k, m = k + 1 := ⟨m - 1, by omega⟩
  have hb : byteAt ⟨⟨h :: tl⟩⟩ 0 = some (h.toNat : Int) := byteAt_mid [] h tl
  have hs : ((⟨⟨h :: tl⟩⟩ : ByteArray).size : Int) = (tl.length : Int) + 1 := by show (((h :: tl).length : Nat) : Int) = _; simp
  have hx : ((h.toNat : Int) != 120) = (h != 120) := xne h
  rw [s_NameOK_L1, hs, if_neg (by rw [e]; simp), hb, bind_some', hx]
  cases h != 120 with
  | true => rfl
  | false =>
   rw [if_neg (by decide)]
   congr 1
   cases tl with
   | nil => rfl
   | cons b t =>
    have : (((b :: t).length : Int) + 1 == 1) = false := by simp; omega
    rw [this]; rfl
 | b :: r, a, m, e, hm => by
  obtain ⟨m, rfl⟩ : ∃ k, m = k + 1 := ⟨m - 1, by omega⟩
  have hb : byteAt ⟨⟨h :: tl⟩⟩ 0 = some (h.toNat : Int) := byteAt_mid [] h tl
  have hs : ((⟨⟨h :: tl⟩⟩ : ByteArray).size : Int) = (tl.length : Int) + 1 := by show (((h :: tl).length : Nat) : Int) = _; simp
  have e2 : byteAt ⟨⟨h :: tl⟩⟩ ((a.length : Int) + 1) = some (b.toNat : Int) := by
   have := byteAt_mid (h :: a) b r
   rw [e]
   simpa using this
  have hx : ((h.toNat : Int) != 120) = (h != 120) := xne h
  have hw : IntKind.i64.wrap ((a.length : Int) + 1 + 1) = ((a ++ [b]).length : Int) + 1 := by
   have : a.length ≤ tl.length := by rw [e]; simp
   rw [w64_eq (by omega) (by omega)]; simp
  have ih := name_lp h tl hl r (a ++ [b]) m (by simp [e]) (by simpa using hm)
  rw [s_NameOK_L1, hs, if_pos (by rw [e]; simp; omega), hb, bind_some', hx, e2, bind_some', digit_eq, bind_some', hw, ih, List.all_cons]
  cases h != 120 <;> cases isD b <;> rfl

theorem cut_eq (h : UInt8) (r : List UInt8) : str_CutPrefix ⟨⟨h :: r⟩⟩ (⟨#[120]⟩) = some (if h = 120 then (⟨⟨r⟩⟩, true) else (⟨⟨h :: r⟩⟩, false)) := by
 have hs : ((⟨⟨h :: r⟩⟩ : ByteArray).size : Int) = (r.length : Int) + 1 := by show (((h :: r).length : Nat) : Int) = _; simp
 have hs1 : (((⟨#[120]⟩ : ByteArray).size : Nat) : Int) = 1 := rfl
 have x1 : strSub ⟨⟨h :: r⟩⟩ 0 1 = some ⟨⟨[h]⟩⟩ := by
  unfold strSub
  rw [if_pos ⟨by omega, by omega, by rw [hs]; omega⟩]
  congr 1
  exact Lib.extract_mk (h :: r) 0 1
 have x2 : strSub ⟨⟨h :: r⟩⟩ 1 ((r.length : Int) + 1) = some ⟨⟨r⟩⟩ := by
  unfold strSub
  rw [if_pos ⟨by omega, by omega, by rw [hs]; omega⟩]
  congr 1
  have := Lib.extract_mk (h :: r) 1 (r.length + 1)
  rw [show ((1 : Int)).toNat = 1 from rfl, show ((r.length : Int) + 1).toNat = r.length + 1 by omega]
  refine this.trans ?_
  simp
 unfold str_CutPrefix sl_CutPrefix sl_HasPrefix
 rw [hs1, hs, if_pos (by omega), x1, bind_some', x2]
 have hb : ((⟨⟨[h]⟩⟩ : ByteArray).toList == (⟨#[120]⟩ : ByteArray).toList) = decide (h = 120) := by
  rw [Lib.toList_data, Lib.toList_data]
  show ([h] == [120]) = _
  by_cases q : h = 120
  ·rw [q]; rfl
  rw [decide_eq_false q]
  simp [q]
 rw [hb, bind_some']
 by_cases q : h = 120
 ·rw [if_pos q, decide_eq_true q]; rfl
 rw [if_neg q, decide_eq_false q]; rfl

theorem specName_ev (l : List UInt8) : Ev fun n => s_NameOK n ⟨⟨l⟩⟩ = some (nameB l) := by
 refine (word_eq l).at (l.length + 1) fun n hn hw => ?_
 unfold s_NameOK
 rw [hw, bind_some']
 cases l with
 | nil => rfl
 | cons h r =>
  have q1 : ((⟨⟨h :: r⟩⟩ : ByteArray).toList == (⟨#[116, 121, 112, 101]⟩ : ByteArray).toList) = (h :: r == [116, 121, 112, 101]) := by rw [Lib.toList_data, Lib.toList_data]
  have q2 : ((⟨⟨h :: r⟩⟩ : ByteArray).toList == (⟨#[95]⟩ : ByteArray).toList) = (h :: r == [95]) := by rw [Lib.toList_data, Lib.toList_data]
  rw [q1, q2]
  show (if (!(decide (r.length + 1 ≤ 40) && (isL h && r.all wd))) = true then _ else _) = _
  rw [nameB_cons]
  cases hW : (decide (r.length + 1 ≤ 40) && (isL h && r.all wd)) with
  | false => rfl
  | true =>
   have h40 : r.length + 1 ≤ 40 := by
    simp only [Bool.and_eq_true, decide_eq_true_eq] at hW; exact hW.1
   have hlp := name_lp h r (by omega) r [] n rfl (by simp at hn; omega)
   have hlp : s_NameOK_L1 ⟨⟨h :: r⟩⟩ n 1 = some (h != 120 || (!(r.all isD) || r == [])) := hlp
   rw [if_neg (by decide), hlp]
   unfold bne
   cases (h :: r == [116, 121, 112, 101]) with
   | true => rfl
   | false =>
    cases (h :: r == [95]) with
    | true => rfl
    | false =>
     cases h == 120 <;> cases r.all isD <;> cases r == [] <;> rfl

theorem implName_eq (l : List UInt8) (hl : l.length ≤ 1048576) : i_NameOK ⟨⟨l⟩⟩ = some (nameB l) := by
 unfold i_NameOK
 rw [iword_eq l hl, bind_some']
 cases l with
 | nil => rfl
 | cons h r =>
  have q1 : ((⟨⟨h :: r⟩⟩ : ByteArray).toList == (⟨#[116, 121, 112, 101]⟩ : ByteArray).toList) = (h :: r == [116, 121, 112, 101]) := by rw [Lib.toList_data, Lib.toList_data]
  have q2 : ((⟨⟨h :: r⟩⟩ : ByteArray).toList == (⟨#[95]⟩ : ByteArray).toList) = (h :: r == [95]) := by rw [Lib.toList_data, Lib.toList_data]
  have hr : r.length ≤ 9223372036854775807 := by simp at hl; omega
  have ho : i_over ⟨⟨r⟩⟩ (⟨#[48, 49, 50, 51, 52, 53, 54, 55, 56, 57]⟩) = some (r.all isD) := over_eq r digs hr (by decide) (by decide)
  rw [q1, q2, cut_eq, bind_some']
  show (if (!(decide (r.length + 1 ≤ 40) && (isL h && r.all wd))) = true then _ else _) = _
  rw [nameB_cons]
  cases hW : (decide (r.length + 1 ≤ 40) && (isL h && r.all wd)) with
  | false => rfl
  | true =>
   rw [if_neg (by decide)]
   unfold bne
   cases (h :: r == [116, 121, 112, 101]) with
   | true => rfl
   | false =>
    cases (h :: r == [95]) with
    | true => rfl
    | false =>
     by_cases hx : h = 120
     ·subst hx
      rw [if_pos rfl]
      have q3 : ((⟨⟨r⟩⟩ : ByteArray).toList == (⟨#[]⟩ : ByteArray).toList) = (r == []) := by rw [Lib.toList_data, Lib.toList_data]
      show (if (!true) = true then some true else if ((⟨⟨r⟩⟩ : ByteArray).toList == (⟨#[]⟩ : ByteArray).toList) = true then some true else (i_over ⟨⟨r⟩⟩ (⟨#[48, 49, 50, 51, 52, 53, 54, 55, 56, 57]⟩)).bind fun r27 => some (!r27)) = _
      rw [if_neg (by decide), q3, ho, bind_some']
      cases r == [] <;> cases r.all isD <;> rfl
     have hx' : (h == 120) = false := by rw [Bool.eq_false_iff]; intro q; rw [beq_iff_eq] at q; exact hx q
     rw [if_neg hx, hx']; rfl

end Go.Am.YtoajlhhalpldfaaGreatDoor
