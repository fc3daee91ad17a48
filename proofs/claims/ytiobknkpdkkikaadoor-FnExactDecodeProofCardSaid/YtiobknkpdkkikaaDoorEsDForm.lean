/- Plain laws: forms read back from terms. -/
import Derived.Test.YtiobknkpdkkikaaDoorPuA
import Derived.Test.YtiobknkpdkkikaaDoorPuPsz0
import Derived.Test.YtiobknkpdkkikaaDoorEkDForm
namespace Go.Am
open Go
def pname (n : Int) : ByteArray := ⟨#[112, UInt8.ofNat (48 + n).toNat]⟩
/-- The first of some numbers whose name is given. -/
def findB (nmf : Int → ByteArray) (s : ByteArray) : Nat → Int → Option Int
  | 0, _ => none
  | k + 1, i => if (s.toList == (nmf i).toList) = true then some i else findB nmf s k (i + 1)
theorem findB_range {nmf : Int → ByteArray} {s : ByteArray} : ∀ (k : Nat) (i j : Int), findB nmf s k i = some j → i ≤ j ∧ j < i + k
  | 0, _, _, h => by cases h
  | k + 1, i, j, h => by
    unfold findB at h
    split at h
    · cases h; omega
    · have := findB_range k _ _ h; omega
def botN : ByteArray := ⟨#[98, 111, 116]⟩
def andN : ByteArray := ⟨#[97, 110, 100]⟩
def impN : ByteArray := ⟨#[105, 109, 112]⟩
mutual
def T.fmd : T → Option F
  | .mk k _ s ks => if k = 6 then (if ks.length = 0 then (if (s.toList == botN.toList) = true then some (F.mk 4 0 []) else (findB pname s 6 0).map fun i => F.mk 1 i []) else if (s.toList == andN.toList) = true then fmdl ks 2 else if (s.toList == impN.toList) = true then fmdl ks 3 else none) else none
def fmdl : List T → Int → Option F
  | [], _ => none
  | a :: r, c => match a.fmd, fmdr r with
    | some x, some y => some (F.mk c 0 [x, y])
    | _, _ => none
def fmdr : List T → Option F
  | [] => none
  | b :: r => if r.length = 0 then b.fmd else none
end
theorem fmdl_size (ks : List T) (c : Int) (ih : ∀ t ∈ ks, ∀ f, t.fmd = some f → f.size ≤ t.size ∧ f.sm) (f : F) (h : fmdl ks c = some f) : f.size ≤ 1 + sizes ks ∧ f.sm := by
  match ks, h, ih with
  | [], h, _ => simp [fmdl] at h
  | [a], h, _ => simp only [fmdl, fmdr] at h; cases ha : a.fmd <;> simp [ha] at h
  | [a, b], h, ih =>
    have hl : fmdl [a, b] c = match a.fmd, b.fmd with | some x, some y => some (F.mk c 0 [x, y]) | _, _ => none := by simp only [fmdl, fmdr]; rfl
    rw [hl] at h
    cases ha : a.fmd with
    | none => simp [ha] at h
    | some x =>
      cases hb : b.fmd with
      | none => simp [ha, hb] at h
      | some y =>
        simp only [ha, hb, Option.some.injEq] at h
        subst h
        have h1 := ih a (by simp) x ha
        have h2 := ih b (by simp) y hb
        refine ⟨by simp only [F.size, fsizes, sizes]; omega, ?_⟩
        unfold F.sm
        refine ⟨by simp, fun t ht => ?_⟩
        rcases List.mem_cons.1 ht with rfl | ht
        · exact h1.2
        · rw [List.mem_singleton.1 ht]; exact h2.2
  | a :: b :: d :: r, h, _ =>
    have hn : fmdl (a :: b :: d :: r) c = none := by simp only [fmdl, fmdr]; rw [if_neg (by simp)]; cases a.fmd <;> rfl
    rw [hn] at h; cases h
theorem fmd_size (t : T) : ∀ f, t.fmd = some f → f.size ≤ t.size ∧ f.sm := by
  induction t using T.ind with
  | _ k n s ks ih =>
    intro f h
    have leaf : ∀ (c i : Int), (F.mk c i []).size ≤ (T.mk k n s ks).size ∧ (F.mk c i []).sm := fun c i => ⟨by simp only [F.size, fsizes, T.size]; omega, by unfold F.sm; exact ⟨by simp, fun t ht => by cases ht⟩⟩
    simp only [T.fmd] at h
    have hsz : (T.mk k n s ks).size = 1 + sizes ks := by simp only [T.size]
    by_cases k6 : k = 6
    · rw [if_pos k6] at h
      by_cases h0 : ks.length = 0
      · rw [if_pos h0] at h
        by_cases hb : (s.toList == botN.toList) = true
        · rw [if_pos hb] at h; cases h; exact leaf _ _
        · rw [if_neg hb] at h
          obtain ⟨i, _, rfl⟩ := Option.map_eq_some_iff.1 h
          exact leaf _ _
      · rw [if_neg h0] at h
        rw [hsz]
        by_cases ha : (s.toList == andN.toList) = true
        · rw [if_pos ha] at h; exact fmdl_size ks 2 ih f h
        · rw [if_neg ha] at h
          by_cases hi : (s.toList == impN.toList) = true
          · rw [if_pos hi] at h; exact fmdl_size ks 3 ih f h
          · rw [if_neg hi] at h; cases h
    · rw [if_neg k6] at h; cases h
end Go.Am
namespace Go.Am.YtiobknkpdkkikaaDoor
open Go Go.Am

theorem pdigit_ev (n : Int) (h0 : 0 ≤ n) (h5 : n ≤ 5) (m : Nat) : ∃ r, s_l00Digits (m + 1) n = some r ∧ r.size = 1 ∧ (⟨#[112]⟩ : ByteArray) ++ r = pname n := by
  have : n = 0 ∨ n = 1 ∨ n = 2 ∨ n = 3 ∨ n = 4 ∨ n = 5 := by omega
  refine ⟨bytesOf [(IntKind.u8.wrap (IntKind.i64.wrap (48 + n)))], ?_, rfl, ?_⟩
  · rw [s_l00Digits, if_neg (by omega), if_neg (by omega), if_pos (by omega)]
  · rcases this with rfl | rfl | rfl | rfl | rfl | rfl <;> decide +kernel
theorem psub_ev (n : Int) (h0 : 0 ≤ n) (h5 : n ≤ 5) : strSub (⟨#[112, 48, 112, 49, 112, 50, 112, 51, 112, 52, 112, 53]⟩ : ByteArray) (IntKind.i64.wrap (2 * n)) (IntKind.i64.wrap ((IntKind.i64.wrap (2 * n)) + 2)) = some (pname n) := by
  have : n = 0 ∨ n = 1 ∨ n = 2 ∨ n = 3 ∨ n = 4 ∨ n = 5 := by omega
  rcases this with rfl | rfl | rfl | rfl | rfl | rfl <;> decide +kernel
theorem ifatom_lp (x : T) (j2 : Option (Rz F)) : ∀ (k m : Nat) (i : Int), i + k = 6 → 0 ≤ i → k < m → i_readForm_L1 x j2 m i = match findB pname x.name k i with | some i => some (.ok (F.mk 1 i [])) | none => j2
  | 0, m, i, hi, h0, hm => by
    obtain ⟨m, rfl⟩ : ∃ k, m = k + 1 := ⟨m - 1, by omega⟩
    rw [i_readForm_L1, if_neg (by omega)]; rfl
  | k + 1, m, i, hi, h0, hm => by
    obtain ⟨m, rfl⟩ : ∃ k, m = k + 1 := ⟨m - 1, by omega⟩
    rw [i_readForm_L1, if_pos (by omega), psub_ev i h0 (by omega), bind_some', w64_eq (by omega) (by omega)]
    simp only [findB]
    by_cases h : (x.name.toList == (pname i).toList) = true
    · rw [if_pos h, if_pos h]
    · rw [if_neg h, if_neg h]
      exact ifatom_lp x j2 k m (i + 1) (by omega) (by omega) (by omega)
theorem sfatom_lp (g : Nat) (s : ByteArray) : ∀ (k m : Nat) (i : Int), i + k = 6 → 0 ≤ i → k < m → s_l08Atom_L1 (g + 1) s m i = some (match findB pname s k i with | some i => i | none => -1)
  | 0, m, i, hi, h0, hm => by
    obtain ⟨m, rfl⟩ : ∃ k, m = k + 1 := ⟨m - 1, by omega⟩
    rw [s_l08Atom_L1, if_neg (by omega)]; rfl
  | k + 1, m, i, hi, h0, hm => by
    obtain ⟨m, rfl⟩ : ∃ k, m = k + 1 := ⟨m - 1, by omega⟩
    obtain ⟨r, q1, q2, q3⟩ := pdigit_ev i h0 (by omega) g
    rw [s_l08Atom_L1, if_pos (by omega), q1, bind_some', chk_of (by rw [q2]; decide), q3, w64_eq (by omega) (by omega)]
    simp only [findB]
    by_cases h : (s.toList == (pname i).toList) = true
    · rw [if_pos h, if_pos h]
    · rw [if_neg h, if_neg h]
      exact sfatom_lp g s k m (i + 1) (by omega) (by omega) (by omega)
/-- What the reference tells of a tree that may stand for something. -/
def Bk {α : Type} (o : Option α) (x : Option (α × Bool)) : Prop := ∃ r, x = some (r, o.isSome) ∧ ∀ f, o = some f → r = f
/-- Both kids. -/
theorem fboth (g : Nat) (ks : List T) (c : Int) (H : ∀ t ∈ ks, i_readForm (g + 1) t = some (match t.fmd with | some f => .ok f | none => .stop 3 0) ∧ Bk t.fmd (s_l08Back (g + 1) t)) (hl : ks.length = 2) :
    ((idx ks 0).bind fun y17 => (idx ks 1).bind fun y22 => zb (i_readForm (g + 1) y17) fun r27 => zb (i_readForm (g + 1) y22) fun r36 => some (.ok (F.mk c 0 [r27, r36]))) = some (match fmdl ks c with | some f => .ok f | none => .stop 3 0) ∧
    Bk (fmdl ks c) ((idx ks 0).bind fun y6 => (s_l08Back (g + 1) y6).bind fun r11 => (idx ks 1).bind fun y24 => (s_l08Back (g + 1) y24).bind fun r29 => if r11.2 = true then some ((F.mk c 0 [r11.1, r29.1]), r29.2) else some ((F.mk c 0 [r11.1, r29.1]), false)) := by
  match ks, hl, H with
  | [a, b], _, H =>
    obtain ⟨h1, r1, h2, h3⟩ := H a (by simp)
    obtain ⟨h4, r2, h5, h6⟩ := H b (by simp)
    have hl : fmdl [a, b] c = match a.fmd, b.fmd with | some x, some y => some (F.mk c 0 [x, y]) | _, _ => none := by simp only [fmdl, fmdr]; rfl
    rw [hl, show idx [a, b] 0 = some a from rfl, show idx [a, b] 1 = some b from rfl]
    simp only [bind_some']
    rw [h1, h4, h2]
    simp only [bind_some']
    rw [h5]
    cases hat : a.fmd with
    | none => exact ⟨rfl, _, rfl, fun f h => by cases h⟩
    | some x =>
      cases hbt : b.fmd with
      | none => exact ⟨rfl, _, rfl, fun f h => by cases h⟩
      | some y => exact ⟨rfl, _, rfl, fun f h => by cases h; rw [h3 x hat, h6 y hbt]⟩
theorem fmdl_ne (ks : List T) (c : Int) (h : ks.length ≠ 2) : fmdl ks c = none := by
  match ks, h with
  | [], _ => simp [fmdl]
  | [a], _ => simp only [fmdl, fmdr]; cases a.fmd <;> rfl
  | a :: b :: d :: r, _ => simp only [fmdl, fmdr]; rw [if_neg (by simp)]; cases a.fmd <;> rfl
theorem fback_ev (t : T) : Ev fun n => i_readForm n t = some (match t.fmd with | some f => .ok f | none => .stop 3 0) ∧ Bk t.fmd (s_l08Back n t) := by
  induction t using T.ind with
  | _ k n s ks ih =>
    refine (Ev.all ih).up 100 fun fu hfu H => ?_
    obtain ⟨g, rfl⟩ : ∃ g, fu = g + 1 := ⟨fu - 1, by omega⟩
    have ei : i_readForm (g + 1 + 1) (T.mk k n s ks) = (fun (j2 : Option (Rz F)) => if k = 6 then (if ((ks.length : Nat) : Int) = 0 then (if (s.toList == botN.toList) = true then some (.ok (F.mk 4 0 [])) else i_readForm_L1 (T.mk k n s ks) j2 (g + 1) 0) else j2) else j2)
        ((fun (j12 : Option (Rz F)) => if (k != 6) = true then some (.stop 3 0) else if (((ks.length : Nat) : Int) != 2) = true then some (.stop 3 0) else if (!(s.toList == andN.toList)) = true then (if (!(s.toList == impN.toList)) = true then some (.stop 3 0) else j12) else j12)
          ((idx ks 0).bind fun y17 => (idx ks 1).bind fun y22 => zb (i_readForm (g + 1) y17) fun r27 => zb (i_readForm (g + 1) y22) fun r36 => if (s.toList == andN.toList) = true then some (.ok (F.mk 2 0 [r27, r36])) else some (.ok (F.mk 3 0 [r27, r36])))) := by rw [i_readForm]; rfl
    have es : s_l08Back (g + 1 + 1) (T.mk k n s ks) = if (k != 6) = true then some ((F.mk 0 0 []), false) else (fun (j3 : Option (F × Bool)) => if ((ks.length : Nat) : Int) = 2 then (if (s.toList == andN.toList) = true then
          (idx ks 0).bind fun y6 => (s_l08Back (g + 1) y6).bind fun r11 => (idx ks 1).bind fun y24 => (s_l08Back (g + 1) y24).bind fun r29 => if (s.toList == impN.toList) = true then (if r11.2 = true then some ((F.mk 3 0 [r11.1, r29.1]), r29.2) else some ((F.mk 3 0 [r11.1, r29.1]), false)) else (if r11.2 = true then some ((F.mk 2 0 [r11.1, r29.1]), r29.2) else some ((F.mk 2 0 [r11.1, r29.1]), false))
        else (if (s.toList == impN.toList) = true then
          (idx ks 0).bind fun y6 => (s_l08Back (g + 1) y6).bind fun r11 => (idx ks 1).bind fun y24 => (s_l08Back (g + 1) y24).bind fun r29 => if (s.toList == impN.toList) = true then (if r11.2 = true then some ((F.mk 3 0 [r11.1, r29.1]), r29.2) else some ((F.mk 3 0 [r11.1, r29.1]), false)) else (if r11.2 = true then some ((F.mk 2 0 [r11.1, r29.1]), r29.2) else some ((F.mk 2 0 [r11.1, r29.1]), false))
        else j3)) else j3)
        (if (((ks.length : Nat) : Int) != 0) = true then some ((F.mk 0 0 []), false) else if (s.toList == botN.toList) = true then some ((F.mk 4 0 []), true) else (s_l08Atom (g + 1) s).bind fun r87 => some ((F.mk 1 (imax r87 0) []), (decide (r87 ≥ 0)))) := by rw [s_l08Back]; rfl
    have hA := ifatom_lp (T.mk k n s ks)
    have hS : s_l08Atom (g + 1) s = some (match findB pname s 6 0 with | some i => i | none => -1) := sfatom_lp g s 6 (g + 1) 0 (by omega) (by omega) (by omega)
    rw [ei, es]
    simp only [T.fmd]
    by_cases k6 : k = 6
    · have k6' : ¬ (k != 6) = true := by simp [k6]
      rw [if_pos k6, if_neg k6', if_neg k6', if_pos k6]
      by_cases h0 : ks.length = 0
      · have hk : ks = [] := List.length_eq_zero_iff.1 h0
        subst hk
        rw [if_pos (show ((([] : List T).length : Nat) : Int) = 0 from rfl), if_pos (show ([] : List T).length = 0 from rfl), if_neg (show ¬ ((([] : List T).length : Nat) : Int) = 2 by simp), if_neg (show ¬ ((((([] : List T).length : Nat) : Int) != 0) = true) by simp)]
        by_cases hb : (s.toList == botN.toList) = true
        · rw [if_pos hb, if_pos hb, if_pos hb]
          exact ⟨rfl, _, rfl, fun f h => by cases h; rfl⟩
        · rw [if_neg hb, if_neg hb, if_neg hb, hA _ 6 (g + 1) 0 (by omega) (by omega) (by omega), hS, tname, bind_some']
          cases hf : findB pname s 6 0 with
          | some i =>
            have hi := findB_range 6 0 i hf
            have e1 : imax i 0 = i := by unfold imax; rw [if_neg (by omega)]
            have e2 : decide (i ≥ 0) = true := decide_eq_true (by omega)
            refine ⟨rfl, F.mk 1 i [], ?_, fun f h => by cases h; rfl⟩
            show some (F.mk 1 (imax i 0) [], decide (i ≥ 0)) = _
            rw [e1, e2]; rfl
          | none =>
            refine ⟨?_, F.mk 1 0 [], rfl, fun f h => by cases h⟩
            show (if (((([] : List T).length : Nat) : Int) != 2) = true then _ else _) = _
            rw [if_pos (by simp)]; rfl
      · rw [if_neg (show ¬ ((ks.length : Nat) : Int) = 0 by omega), if_neg h0, if_pos (show (((ks.length : Nat) : Int) != 0) = true by simp only [bne_iff_ne]; omega)]
        by_cases h2 : ks.length = 2
        · rw [if_neg (show ¬ (((ks.length : Nat) : Int) != 2) = true by simp [h2]), if_pos (show ((ks.length : Nat) : Int) = 2 by omega)]
          by_cases ha : (s.toList == andN.toList) = true
          · have hni : ¬ (s.toList == impN.toList) = true := by
              intro q
              have q1 := beq_iff_eq.1 ha
              have q2 := beq_iff_eq.1 q
              rw [q1] at q2
              exact absurd q2 (by decide +kernel)
            obtain ⟨c1, c2⟩ := fboth g ks 2 H h2
            rw [if_neg (show ¬ (!(s.toList == andN.toList)) = true by rw [ha]; decide), if_pos ha, if_pos ha]
            simp only [if_pos ha, if_neg hni]
            exact ⟨c1, c2⟩
          · rw [if_pos (show (!(s.toList == andN.toList)) = true by simpa using ha), if_neg ha, if_neg ha]
            by_cases hi : (s.toList == impN.toList) = true
            · obtain ⟨c1, c2⟩ := fboth g ks 3 H h2
              rw [if_neg (show ¬ (!(s.toList == impN.toList)) = true by rw [hi]; decide), if_pos hi, if_pos hi]
              simp only [if_neg ha, if_pos hi]
              exact ⟨c1, c2⟩
            · rw [if_pos (show (!(s.toList == impN.toList)) = true by simpa using hi), if_neg hi, if_neg hi]
              exact ⟨rfl, _, rfl, fun f h => by cases h⟩
        · rw [if_pos (show (((ks.length : Nat) : Int) != 2) = true by simp only [bne_iff_ne]; omega), if_neg (show ¬ ((ks.length : Nat) : Int) = 2 by omega), fmdl_ne ks 2 h2, fmdl_ne ks 3 h2]
          have hn : (if (s.toList == andN.toList) = true then (none : Option F) else if (s.toList == impN.toList) = true then none else none) = none := by split <;> (try split) <;> rfl
          rw [hn]
          exact ⟨rfl, _, rfl, fun f h => by cases h⟩
    · have k6' : (k != 6) = true := by simpa using k6
      rw [if_neg k6, if_pos k6', if_pos k6', if_neg k6]
      exact ⟨rfl, F.mk 0 0 [], rfl, fun f h => by cases h⟩

end Go.Am.YtiobknkpdkkikaaDoor
