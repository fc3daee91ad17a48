/- Plain laws: types read back from terms. -/
import Derived.Test.YtiobknkpdkkikaaDoorPuA
import Derived.Test.YtiobknkpdkkikaaDoorPuPsz0
import Derived.Test.YtiobknkpdkkikaaDoorEkDType
namespace Go.Am
open Go
def bname (n : Int) : ByteArray := ⟨#[98, UInt8.ofNat (48 + n).toNat]⟩
/-- The first of some numbers whose name is given. -/
def findB (nmf : Int → ByteArray) (s : ByteArray) : Nat → Int → Option Int
  | 0, _ => none
  | k + 1, i => if (s.toList == (nmf i).toList) = true then some i else findB nmf s k (i + 1)
theorem findB_range {nmf : Int → ByteArray} {s : ByteArray} : ∀ (k : Nat) (i j : Int), findB nmf s k i = some j → i ≤ j ∧ j < i + k
  | 0, _, _, h => by cases h
  | k + 1, i, j, h => by
    unfold findB at h
    split at h
    · cases h; omega
    · have := findB_range k _ _ h; omega
def arrN : ByteArray := ⟨#[97, 114, 114]⟩
mutual
def T.tyd : T → Option F
  | .mk k _ s ks => if k = 6 then (if ks.length = 0 then (findB bname s 6 0).map fun i => F.mk 1 i [] else if (s.toList == arrN.toList) = true then tydl ks else none) else none
def tydl : List T → Option F
  | [] => none
  | a :: r => match a.tyd, tydr r with
    | some x, some y => some (F.mk 2 0 [x, y])
    | _, _ => none
def tydr : List T → Option F
  | [] => none
  | b :: r => if r.length = 0 then b.tyd else none
end
theorem tyd_size (t : T) : ∀ f, t.tyd = some f → f.size ≤ t.size ∧ f.sm := by
  induction t using T.ind with
  | _ k n s ks ih =>
    intro f h
    simp only [T.tyd] at h
    by_cases k6 : k = 6
    · rw [if_pos k6] at h
      by_cases h0 : ks.length = 0
      · rw [if_pos h0] at h
        obtain ⟨i, _, rfl⟩ := Option.map_eq_some_iff.1 h
        refine ⟨by simp only [F.size, fsizes, T.size]; omega, ?_⟩
        unfold F.sm
        exact ⟨by decide, fun t ht => by cases ht⟩
      · rw [if_neg h0] at h
        by_cases ha : (s.toList == arrN.toList) = true
        · rw [if_pos ha] at h
          match ks, h, ih with
          | a :: r, h, ih =>
            simp only [tydl] at h
            match r, h, ih with
            | [], h, ih => simp [tydr] at h
            | b :: r', h, ih =>
              simp only [tydr] at h
              by_cases hr : r'.length = 0
              · rw [if_pos hr] at h
                cases ha1 : a.tyd with
                | none => simp [ha1] at h
                | some x =>
                  cases hb1 : b.tyd with
                  | none => simp [ha1, hb1] at h
                  | some y =>
                    simp only [ha1, hb1, Option.some.injEq] at h
                    subst h
                    have h1 := ih a (by simp) x ha1
                    have h2 := ih b (by simp) y hb1
                    refine ⟨by simp only [F.size, fsizes, T.size, sizes]; omega, ?_⟩
                    unfold F.sm
                    refine ⟨by simp, fun t ht => ?_⟩
                    rcases List.mem_cons.1 ht with rfl | ht
                    · exact h1.2
                    · rw [List.mem_singleton.1 ht]; exact h2.2
              · rw [if_neg hr] at h
                cases ha1 : a.tyd <;> simp [ha1] at h
        · rw [if_neg ha] at h; cases h
    · rw [if_neg k6] at h; cases h
end Go.Am
namespace Go.Am.YtiobknkpdkkikaaDoor
open Go Go.Am

theorem digit_ev (n : Int) (h0 : 0 ≤ n) (h5 : n ≤ 5) (m : Nat) : ∃ r, s_l00Digits (m + 1) n = some r ∧ r.size = 1 ∧ (⟨#[98]⟩ : ByteArray) ++ r = bname n := by
  have : n = 0 ∨ n = 1 ∨ n = 2 ∨ n = 3 ∨ n = 4 ∨ n = 5 := by omega
  refine ⟨bytesOf [(IntKind.u8.wrap (IntKind.i64.wrap (48 + n)))], ?_, rfl, ?_⟩
  · rw [s_l00Digits, if_neg (by omega), if_neg (by omega), if_pos (by omega)]
  · rcases this with rfl | rfl | rfl | rfl | rfl | rfl <;> decide +kernel
theorem sub_ev (n : Int) (h0 : 0 ≤ n) (h5 : n ≤ 5) : strSub (⟨#[98, 48, 98, 49, 98, 50, 98, 51, 98, 52, 98, 53]⟩ : ByteArray) (IntKind.i64.wrap (2 * n)) (IntKind.i64.wrap ((IntKind.i64.wrap (2 * n)) + 2)) = some (bname n) := by
  have : n = 0 ∨ n = 1 ∨ n = 2 ∨ n = 3 ∨ n = 4 ∨ n = 5 := by omega
  rcases this with rfl | rfl | rfl | rfl | rfl | rfl <;> decide +kernel
theorem iatom_lp (x : T) (j2 : Option (Rz F)) : ∀ (k m : Nat) (i : Int), i + k = 6 → 0 ≤ i → k < m → i_readType_L1 x j2 m i = match findB bname x.name k i with | some i => some (.ok (F.mk 1 i [])) | none => j2
  | 0, m, i, hi, h0, hm => by
    obtain ⟨m, rfl⟩ : ∃ k, m = k + 1 := ⟨m - 1, by omega⟩
    rw [i_readType_L1, if_neg (by omega)]; rfl
  | k + 1, m, i, hi, h0, hm => by
    obtain ⟨m, rfl⟩ : ∃ k, m = k + 1 := ⟨m - 1, by omega⟩
    rw [i_readType_L1, if_pos (by omega), sub_ev i h0 (by omega), bind_some', w64_eq (by omega) (by omega)]
    simp only [findB]
    by_cases h : (x.name.toList == (bname i).toList) = true
    · rw [if_pos h, if_pos h]
    · rw [if_neg h, if_neg h]
      exact iatom_lp x j2 k m (i + 1) (by omega) (by omega) (by omega)
theorem satom_lp (g : Nat) (x : T) : ∀ (k m : Nat) (i : Int), i + k = 6 → 0 ≤ i → k < m → s_l09TypeBack_L1 (g + 1) x m i = match findB bname x.name k i with | some i => some (F.mk 1 i [], ((x.kids.length : Int) == 0)) | none => some (F.mk 0 0 [], false)
  | 0, m, i, hi, h0, hm => by
    obtain ⟨m, rfl⟩ : ∃ k, m = k + 1 := ⟨m - 1, by omega⟩
    rw [s_l09TypeBack_L1, if_neg (by omega)]; rfl
  | k + 1, m, i, hi, h0, hm => by
    obtain ⟨m, rfl⟩ : ∃ k, m = k + 1 := ⟨m - 1, by omega⟩
    obtain ⟨r, q1, q2, q3⟩ := digit_ev i h0 (by omega) g
    rw [s_l09TypeBack_L1, if_pos (by omega), q1, bind_some', chk_of (by rw [q2]; decide), q3, w64_eq (by omega) (by omega)]
    simp only [findB]
    by_cases h : (x.name.toList == (bname i).toList) = true
    · rw [if_pos h, if_pos h]
    · rw [if_neg h, if_neg h]
      exact satom_lp g x k m (i + 1) (by omega) (by omega) (by omega)
/-- What the reference tells of a tree that may stand for something. -/
def Bk {α : Type} (o : Option α) (x : Option (α × Bool)) : Prop := ∃ r, x = some (r, o.isSome) ∧ ∀ f, o = some f → r = f
theorem back_ev (t : T) : Ev fun n => i_readType n t = some (match t.tyd with | some f => .ok f | none => .stop 3 0) ∧ Bk t.tyd (s_l09TypeBack n t) := by
  induction t using T.ind with
  | _ k n s ks ih =>
    refine (Ev.all ih).up 100 fun fu hfu H => ?_
    obtain ⟨g, rfl⟩ : ∃ g, fu = g + 1 := ⟨fu - 1, by omega⟩
    have ei : i_readType (g + 1 + 1) (T.mk k n s ks) = (fun j2 => if k = 6 then (if ((ks.length : Nat) : Int) = 0 then i_readType_L1 (T.mk k n s ks) j2 (g + 1) 0 else j2) else j2) (if (k != 6) = true then some (.stop 3 0) else if (!(s.toList == (⟨#[97, 114, 114]⟩ : ByteArray).toList)) = true then some (.stop 3 0) else if (((ks.length : Nat) : Int) != 2) = true then some (.stop 3 0) else (idx ks 0).bind fun y14 => (idx ks 1).bind fun y19 => zb (i_readType (g + 1) y14) fun r24 => zb (i_readType (g + 1) y19) fun r33 => some (.ok (F.mk 2 0 [r24, r33]))) := by rw [i_readType]; rfl
    have es : s_l09TypeBack (g + 1 + 1) (T.mk k n s ks) = if (k != 6) = true then some ((F.mk 0 0 []), false) else (fun j3 => if (s.toList == (⟨#[97, 114, 114]⟩ : ByteArray).toList) = true then (if ((ks.length : Nat) : Int) = 2 then (idx ks 0).bind fun y6 => (s_l09TypeBack (g + 1) y6).bind fun r11 => (idx ks 1).bind fun y24 => (s_l09TypeBack (g + 1) y24).bind fun r29 => if r11.2 = true then some ((F.mk 2 0 [r11.1, r29.1]), r29.2) else some ((F.mk 2 0 [r11.1, r29.1]), false) else j3) else j3) (s_l09TypeBack_L1 (g + 1) (T.mk k n s ks) (g + 1) 0) := by rw [s_l09TypeBack]; rfl
    have hA := iatom_lp (T.mk k n s ks)
    have hS := satom_lp g (T.mk k n s ks) 6 (g + 1) 0 (by omega) (by omega) (by omega)
    rw [tkids, tname] at hS
    rw [ei, es]
    simp only [T.tyd]
    by_cases k6 : k = 6
    · have k6' : ¬ (k != 6) = true := by simp [k6]
      rw [if_pos k6, if_neg k6', if_neg k6', if_pos k6, hS]
      by_cases h0 : ks.length = 0
      · have hk : ks = [] := List.length_eq_zero_iff.1 h0
        subst hk
        rw [if_pos (show ((([] : List T).length : Nat) : Int) = 0 from rfl), if_pos (show ([] : List T).length = 0 from rfl), hA _ 6 (g + 1) 0 (by omega) (by omega) (by omega), tname]
        have hne : ¬ ((([] : List T).length : Nat) : Int) = 2 := by simp
        cases hf : findB bname s 6 0 with
        | some i =>
          refine ⟨rfl, F.mk 1 i [], ?_, fun f h => by cases h; rfl⟩
          by_cases ha : (s.toList == (⟨#[97, 114, 114]⟩ : ByteArray).toList) = true
          · rw [if_pos ha, if_neg hne]; rfl
          · rw [if_neg ha]; rfl
        | none =>
          refine ⟨?_, F.mk 0 0 [], ?_, fun f h => by cases h⟩
          · by_cases ha : (s.toList == (⟨#[97, 114, 114]⟩ : ByteArray).toList) = true
            · rw [if_neg (show ¬ (!(s.toList == (⟨#[97, 114, 114]⟩ : ByteArray).toList)) = true by rw [ha]; decide)]; rfl
            · rw [if_pos (show (!(s.toList == (⟨#[97, 114, 114]⟩ : ByteArray).toList)) = true by simpa using ha)]; rfl
          · by_cases ha : (s.toList == (⟨#[97, 114, 114]⟩ : ByteArray).toList) = true
            · rw [if_pos ha, if_neg hne]; rfl
            · rw [if_neg ha]; rfl
      · rw [if_neg (by omega), if_neg h0]
        have hz : (((ks.length : Nat) : Int) == 0) = false := beq_eq_false_iff_ne.2 (by omega)
        have hL : ∃ r, (match findB bname s 6 0 with | some i => some (F.mk 1 i [], (((ks.length : Nat) : Int) == 0)) | none => some (F.mk 0 0 [], false)) = some (r, false) := by
          rw [hz]
          cases findB bname s 6 0 <;> exact ⟨_, rfl⟩
        obtain ⟨r0, hr0⟩ := hL
        rw [hr0]
        by_cases ha : (s.toList == (⟨#[97, 114, 114]⟩ : ByteArray).toList) = true
        · rw [if_neg (show ¬ (!(s.toList == (⟨#[97, 114, 114]⟩ : ByteArray).toList)) = true by rw [ha]; decide), if_pos ha, if_pos (show (s.toList == arrN.toList) = true from ha)]
          match ks, h0, H with
          | a :: r, _, H =>
            match r, H with
            | [], H =>
              have hn : tydl [a] = none := by simp only [tydl, tydr]; cases a.tyd <;> rfl
              rw [hn]
              exact ⟨rfl, r0, rfl, fun f h => by cases h⟩
            | [b], H =>
              obtain ⟨h1, r1, h2, h3⟩ := H a (by simp)
              obtain ⟨h4, r2, h5, h6⟩ := H b (by simp)
              have hl : tydl [a, b] = match a.tyd, b.tyd with | some x, some y => some (F.mk 2 0 [x, y]) | _, _ => none := by simp only [tydl, tydr]; rfl
              rw [hl]
              have e1 : (if (((([a, b] : List T).length : Nat) : Int) != 2) = true then some (Rz.stop 3 0) else (idx [a, b] 0).bind fun y14 => (idx [a, b] 1).bind fun y19 => zb (i_readType (g + 1) y14) fun r24 => zb (i_readType (g + 1) y19) fun r33 => some (.ok (F.mk 2 0 [r24, r33]))) = zb (i_readType (g + 1) a) fun r24 => zb (i_readType (g + 1) b) fun r33 => some (.ok (F.mk 2 0 [r24, r33])) := rfl
              rw [e1, h1, h4]
              have e2 : (if (((([a, b] : List T).length : Nat) : Int)) = 2 then (idx [a, b] 0).bind fun y6 => (s_l09TypeBack (g + 1) y6).bind fun r11 => (idx [a, b] 1).bind fun y24 => (s_l09TypeBack (g + 1) y24).bind fun r29 => if r11.2 = true then some ((F.mk 2 0 [r11.1, r29.1]), r29.2) else some ((F.mk 2 0 [r11.1, r29.1]), false) else some (r0, false)) = (s_l09TypeBack (g + 1) a).bind fun r11 => (s_l09TypeBack (g + 1) b).bind fun r29 => if r11.2 = true then some ((F.mk 2 0 [r11.1, r29.1]), r29.2) else some ((F.mk 2 0 [r11.1, r29.1]), false) := rfl
              rw [e2, h2, h5]
              cases hat : a.tyd with
              | none => exact ⟨rfl, _, rfl, fun f h => by cases h⟩
              | some x =>
                cases hbt : b.tyd with
                | none => exact ⟨rfl, _, rfl, fun f h => by cases h⟩
                | some y => exact ⟨rfl, _, rfl, fun f h => by cases h; rw [h3 x hat, h6 y hbt]⟩
            | b :: c :: r', H =>
              have hn : tydl (a :: b :: c :: r') = none := by simp only [tydl, tydr]; rw [if_neg (by simp)]; cases a.tyd <;> rfl
              rw [hn, if_pos (by simp; omega), if_neg (by simp; omega)]
              exact ⟨rfl, r0, rfl, fun f h => by cases h⟩
        · rw [if_pos (show (!(s.toList == (⟨#[97, 114, 114]⟩ : ByteArray).toList)) = true by simpa using ha), if_neg ha, if_neg (show ¬ (s.toList == arrN.toList) = true from ha)]
          exact ⟨rfl, r0, rfl, fun f h => by cases h⟩
    · have k6' : (k != 6) = true := by simpa using k6
      rw [if_neg k6, if_pos k6', if_pos k6', if_neg k6]
      exact ⟨rfl, F.mk 0 0 [], rfl, fun f h => by cases h⟩

end Go.Am.YtiobknkpdkkikaaDoor
