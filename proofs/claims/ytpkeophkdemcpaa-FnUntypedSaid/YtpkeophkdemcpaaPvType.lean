/- Plain laws: what is a right type: the reference's way and the program's. -/
import Derived.Test.YtpkeophkdemcpaaPuType
import Derived.Test.YtpkeophkdemcpaaMkType
namespace Go.Am.Ytpkeophkdemcpaa
open Go Go.Am

theorem cntType_loop (rec : F → Int → Option Int) (x : F) (hl : x.kids.length ≤ 1048576) (H : ∀ y ∈ x.kids, ∀ left, 0 ≤ left → left ≤ 1000 → rec y left = some (y.cnt left)) :
  ∀ (r a : List F) (m : Nat) (left : Int), x.kids = a ++ r → r.length < m → -1 ≤ left → left ≤ 1000 → s_l09TypeCount_L1 rec x m left a.length = some (fcnts r left)
 | [], a, m, left, e, hm, h0, h1 => by
  obtain ⟨m, rfl⟩ : ∃ k, m = k + 1 := ⟨m - 1, by omega⟩
  rw [s_l09TypeCount_L1, e, if_neg (lt_end a)]; rfl
 | y :: r, a, m, left, e, hm, h0, h1 => by
  obtain ⟨m, rfl⟩ : ∃ k, m = k + 1 := ⟨m - 1, by omega⟩
  have hy : y ∈ x.kids := by rw [e]; simp
  rw [s_l09TypeCount_L1]
  have e1 : (a.length : Int) < (x.kids.length : Int) := by rw [e]; exact lt_mid a y r
  rw [if_pos e1]
  simp only [fcnts]
  split
  ·rename_i hge
   have hr := cnt_range y left hge
   rw [show idx x.kids (a.length : Int) = some y by rw [e]; exact idx_mid a y r, bind_some', H y hy left hge h1, bind_some']
   rw [show IntKind.i64.wrap ((a.length : Int) + 1) = ((a ++ [y]).length : Int) from w64_mid a y r (by rw [← e]; omega)]
   exact cntType_loop rec x hl H r (a ++ [y]) m (y.cnt left) (by simp [e]) (by simpa using hm) (by omega) (by omega)
  rfl

theorem cntType_ev (t : F) (hsm : t.sm) : Ev fun n => ∀ left, 0 ≤ left → left ≤ 1000 → s_l09TypeCount n t left = some (t.cnt left) := by
 induction t using F.ind with
 | _ k n ks ih =>
  obtain ⟨hl, hks⟩ := fsm_kids hsm
  refine (Ev.all fun t ht => ih t ht (hks t ht)).up (ks.length + 1) fun n hn H left h0 h1 => ?_
  rw [s_l09TypeCount, w64_eq (by omega) (by omega)]
  simp only [F.cnt]
  exact cntType_loop _ (F.mk k _ ks) hl H ks [] n _ rfl (by omega) (by omega) (by omega)

theorem tyok_eq (k n : Int) (ks : List F) : (F.mk k n ks).tyok = if k = 1 then (decide (0 ≤ n) && (decide (n ≤ 5) && decide (ks.length = 0))) else if k = 2 then (decide (n = 0) && (decide (ks.length = 2) && ftyoks ks)) else false := by
 simp only [F.tyok]

theorem specType_ev (t : F) : Ev fun n => s_l09Type n t = some t.tyok := by
 induction t using F.ind with
 | _ k n ks ih =>
  refine (Ev.all ih).up 0 fun fu hn H => ?_
  rw [s_l09Type]
  simp only [fkind, fn, fkids, tyok_eq]
  by_cases k1 : k = 1
  ·subst k1
   by_cases n0 : n ≥ 0
   ·by_cases n5 : n < 6
    ·by_cases hl0 : ks.length = 0
     ·simp [n0, n5, hl0, show n ≤ 5 by omega]
     simp [n0, n5, hl0, show n ≤ 5 by omega, show ¬ (ks.length : Int) = 0 by omega]
    simp [n0, n5, show ¬ n ≤ 5 by omega]
   simp [n0]
  by_cases k2 : k = 2
  ·subst k2
   by_cases n0 : n = 0
   ·by_cases hl2 : ks.length = 2
    ·match ks, hl2, H with
     | [a, b], _, H =>
      have i0 : idx [a, b] 0 = some a := rfl
      have i1 : idx [a, b] 1 = some b := rfl
      simp only [i0, i1, bind_some', H a (List.mem_cons_self ..), H b (by simp)]
      cases ha : a.tyok <;> simp [n0, ftyoks, ha]
    simp [n0, hl2, show ¬ (ks.length : Int) = 2 by omega]
   simp [n0]
  simp [k1, k2]

theorem specTypeOK_ev (t : F) (hsm : t.sm) : Ev fun n => s_TypeOK n t = some (decide (t.size ≤ 150) && t.tyok) := by
 refine ((cntType_ev t hsm).and (specType_ev t)).mp fun n ⟨h1, h2⟩ => ?_
 have hc := cnt_eq t 150 (by omega)
 rw [s_TypeOK, h1 150 (by omega) (by omega), bind_some', h2]
 by_cases hs : t.size ≤ 150
 ·rw [if_pos (by rw [hc.1 (by omega)]; omega), decide_eq_true hs]; rfl
 rw [if_neg (by have := hc.2 (by omega); omega), decide_eq_false hs]; rfl

def LookType (t : F) (n : Nat) : Prop := ∀ (left : Int) (om : Bool), 0 ≤ left → left ≤ 150 → ∃ l', i_looker_typ n (left, om) t = some ((decide ((t.size : Int) ≤ left) && t.tyok), (l', om)) ∧ -1 ≤ l' ∧ l' ≤ 150 ∧ ((t.size : Int) ≤ left → t.tyok = true → l' = left - t.size)

theorem lookType_ev (t : F) : Ev (LookType t) := by
 induction t using F.ind with
 | _ k n ks ih =>
  refine (Ev.all ih).up 0 fun fu hn H left om h0 h1 => ?_
  have hw : IntKind.i64.wrap (left - 1) = left - 1 := w64_eq (by omega) (by omega)
  have hsz : (F.mk k n ks).size = 1 + fsizes ks := by simp only [F.size]
  rw [i_looker_typ]
  simp only [i_looker_node, i_in, bind_some', fkind, fn, fkids, hw, tyok_eq, hsz]
  by_cases hl1 : left - 1 ≥ 0
  ·have hlA : ¬ left < 1 := by omega
   have hlB : 1 ≤ left := by omega
   have hnil : ks.length = 0 → fsizes ks = 0 := fun h => by rw [List.length_eq_zero_iff.1 h]; rfl
   by_cases k1 : k = 1
   ·subst k1
    by_cases hn5 : 0 ≤ n ∧ n ≤ 5
    ·by_cases hl0 : ks.length = 0
     ·refine ⟨left - 1, ?_, by omega, by omega, fun _ _ => by rw [hnil hl0]; omega⟩
      simp [hlA, hlB, hn5.1, hn5.2, hl0, hnil hl0]
     refine ⟨left - 1, ?_, by omega, by omega, fun _ q => by simp [hl0] at q⟩
     simp [hlA, hlB, hn5.1, hn5.2, hl0, show ¬ (ks.length : Int) = 0 by omega]
    have hf : (decide (0 ≤ n) && (decide (n ≤ 5) && decide (ks.length = 0))) = false := by
     by_cases q : 0 ≤ n
     ·rw [decide_eq_false (show ¬ n ≤ 5 by omega)]; simp
     rw [decide_eq_false q]; simp
    refine ⟨left - 1, ?_, by omega, by omega, fun _ q => by rw [if_pos rfl, hf] at q; cases q⟩
    by_cases q : 0 ≤ n
    ·simp [hlA, hlB, q, show ¬ n ≤ 5 by omega]
    simp [hlA, hlB, q]
   by_cases k2 : k = 2
   ·subst k2
    by_cases hn0 : n = 0
    ·by_cases hl2 : ks.length = 2
     ·match ks, hl2, H with
      | [a, b], _, H =>
       have Ha := H a (List.mem_cons_self ..) (left - 1) om (by omega) (by omega)
       obtain ⟨la, ea, la0, la1, la2⟩ := Ha
       have hpa := fsize_pos a
       have hpb := fsize_pos b
       have hfs : fsizes [a, b] = a.size + b.size := by simp [fsizes]
       have hff : ftyoks [a, b] = (a.tyok && b.tyok) := by simp [ftyoks]
       have i0 : idx [a, b] 0 = some a := rfl
       have i1 : idx [a, b] 1 = some b := rfl
       simp only [hfs, hff, i0, i1, bind_some', ea]
       by_cases hga : ((a.size : Int) ≤ left - 1) ∧ a.tyok = true
       ·have hla := la2 hga.1 hga.2
        obtain ⟨lb, eb, lb0, lb1, lb2⟩ := H b (by simp) la om (by omega) (by omega)
        refine ⟨lb, ?_, lb0, lb1, fun q1 q2 => ?_⟩
        ·simp only [eb, bind_some']
         by_cases hgb : (b.size : Int) ≤ la
         ·simp [hlA, hlB, hn0, hga.1, hga.2, hgb, show (1 : Int) + (a.size + b.size) ≤ left by omega]
         simp [hlA, hlB, hn0, hga.1, hga.2, hgb, show ¬ (1 : Int) + (a.size + b.size) ≤ left by omega]
        have hb : b.tyok = true := by simpa [hn0, hga.2] using q2
        have := lb2 (by omega) hb
        omega
       refine ⟨la, ?_, la0, la1, fun q1 q2 => ?_⟩
       ·have hx : (decide ((a.size : Int) ≤ left - 1) && a.tyok) = false := by
         cases hc : a.tyok with
         | false => simp
         | true => rw [decide_eq_false (fun q => hga ⟨q, hc⟩)]; rfl
        have hy : (decide (((1 + (a.size + b.size) : Nat) : Int) ≤ left) && (a.tyok && b.tyok)) = false := by
         cases hc : a.tyok with
         | false => simp
         | true => rw [decide_eq_false (fun q => hga ⟨by omega, hc⟩)]; rfl
        simp [hlA, hlB, hn0, hx] at hy ⊢
        exact hy
       have : a.tyok = true ∧ b.tyok = true := by simpa [hn0] using q2
       exact absurd ⟨by omega, this.1⟩ hga
     refine ⟨left - 1, ?_, by omega, by omega, fun _ q => by simp [hl2] at q⟩
     simp [hlA, hlB, hn0, hl2, show ¬ (ks.length : Int) = 2 by omega]
    refine ⟨left - 1, ?_, by omega, by omega, fun _ q => by simp [hn0] at q⟩
    simp [hlA, hlB, hn0]
   refine ⟨left - 1, ?_, by omega, by omega, fun _ q => by simp [k1, k2] at q⟩
   simp [hlA, hlB, k1, k2]
  refine ⟨left - 1, ?_, by omega, by omega, fun q _ => by omega⟩
  have : ¬ ((1 + fsizes ks : Nat) : Int) ≤ left := by omega
  have hlA : left < 1 := by omega
  simp [hlA]; omega

theorem implTypeOK_ev (t : F) : Ev fun n => i_TypeOK n t = some (decide (t.size ≤ 150) && t.tyok) := by
 refine (lookType_ev t).mp fun n h => ?_
 obtain ⟨l', e, _⟩ := h 150 false (by omega) (by omega)
 rw [i_TypeOK, e, bind_some', show decide (t.size ≤ 150) = decide ((t.size : Int) ≤ 150) from decide_eq_decide.2 (by omega)]

end Go.Am.Ytpkeophkdemcpaa
