/- Plain laws: variables lifted and lowered. -/
import Derived.Test.YtoajlhhalpldfaaGreatDoorPsOccA
import Derived.Test.YtoajlhhalpldfaaGreatDoorDkLift
namespace Go.Am
open Go
mutual
def T.lft : T → Int → Int → T
 | .mk k n s ks, fr, b => .mk k (if k = 5 ∧ n ≥ fr then n + b else n) s (lfts ks k 0 fr b)
def lfts : List T → Int → Nat → Int → Int → List T
 | [], _, _, _, _ => []
 | t :: r, k, i, fr, b => t.lft (fr + und k i) b :: lfts r k (i + 1) fr b
end
def T.vb (B : Int) : T → Prop
 | .mk k n _ ks => (k = 5 → 0 ≤ n ∧ n ≤ B) ∧ ∀ t ∈ ks, t.vb B
theorem vb_eq (B k n : Int) (s : ByteArray) (ks : List T) : (T.mk k n s ks).vb B ↔ (k = 5 → 0 ≤ n ∧ n ≤ B) ∧ ∀ t ∈ ks, t.vb B := by rw [T.vb]
theorem n100_vb (t : T) : t.n100 = true → t.vb 100 := by
 induction t using T.ind with
 | _ k n s ks ih =>
  intro h
  rw [n100_eq] at h
  rw [vb_eq]
  exact ⟨fun _ => ⟨h.1, h.2.1⟩, fun t ht => ih t ht (h.2.2 t ht)⟩
theorem lft_size (t : T) : ∀ f b, (t.lft f b).size = t.size := by
 induction t using T.ind with
 | _ k n s ks ih =>
  intro f b
  have key : ∀ (l : List T), (∀ t ∈ l, ∀ f b, (t.lft f b).size = t.size) → ∀ i, sizes (lfts l k i f b) = sizes l := by
   intro l
   induction l with
   | nil => intro _ _; rfl
   | cons a r ih2 => intro h i; simp only [lfts, sizes]; rw [h a (by simp), ih2 (fun t ht => h t (by simp [ht]))]
  simp only [T.lft, T.size]
  rw [key ks ih]
theorem lfts_length : ∀ (l : List T) (k : Int) (i : Nat) (f b : Int), (lfts l k i f b).length = l.length
 | [], _, _, _, _ => rfl
 | a :: r, k, i, f, b => by simp only [lfts, List.length_cons, lfts_length r]
theorem occ_lft (t : T) : ∀ v b, t.occ v = false → t.lft v b = t.lft (v + 1) b := by
 induction t using T.ind with
 | _ k n s ks ih =>
  intro v b h
  have key : ∀ (l : List T), (∀ t ∈ l, ∀ v b, t.occ v = false → t.lft v b = t.lft (v + 1) b) → ∀ i, occs l k i v = false → lfts l k i v b = lfts l k i (v + 1) b := by
   intro l
   induction l with
   | nil => intro _ _ _; rfl
   | cons a r ih2 =>
    intro hh i ho
    simp only [occs, Bool.or_eq_false_iff] at ho
    simp only [lfts]
    rw [hh a (by simp) _ b ho.1, ih2 (fun t ht => hh t (by simp [ht])) (i + 1) ho.2, show v + und k i + 1 = v + 1 + und k i by omega]
  simp only [T.occ, Bool.or_eq_false_iff, Bool.and_eq_false_iff, decide_eq_false_iff_not] at h
  simp only [T.lft]
  rw [key ks ih 0 h.2]
  congr 1
  by_cases k5 : k = 5
  ·have hn : n ≠ v := h.1.resolve_left (fun q => q k5)
   by_cases hv : n ≥ v
   ·rw [if_pos ⟨k5, hv⟩, if_pos ⟨k5, by omega⟩]
   rw [if_neg (fun q => hv q.2), if_neg (fun q => hv (by omega))]
  rw [if_neg (fun q => k5 q.1), if_neg (fun q => k5 q.1)]
end Go.Am
namespace Go.Am.YtoajlhhalpldfaaGreatDoor
open Go Go.Am

theorem slift_lp (rec : T → Int → Int → Option T) (x : T) (fr b : Int) (B : Int) (hB : B ≤ 9223372036854775000) (hv : 0 ≤ fr) (hvB : fr + sizes x.kids ≤ B) (hl : x.kids.length ≤ 1048576)
  (H : ∀ y ∈ x.kids, ∀ f : Int, 0 ≤ f → f + (y.size : Int) ≤ B + 1 → rec y f b = some (y.lft f b)) (res : List T → Option T)
  (hres : ∀ l, res l = if x.kind = 5 then if x.n ≥ fr then some (T.mk x.kind (IntKind.i64.wrap (x.n + b)) x.name l) else some (T.mk x.kind x.n x.name l) else some (T.mk x.kind x.n x.name l)) :
  ∀ (r a acc : List T) (m : Nat), x.kids = a ++ r → acc.length = a.length → r.length < m → s_l01Lift_L1 rec x fr b m a.length acc = res (acc ++ lfts r x.kind a.length fr b)
 | [], a, acc, m, e, ha, hm => by
  obtain ⟨m, rfl⟩ : ∃ k, m = k + 1 := ⟨m - 1, by omega⟩
  rw [s_l01Lift_L1, e, if_neg (lt_end a), hres]
  simp only [lfts, List.append_nil]
 | y :: r, a, acc, m, e, ha, hm => by
  obtain ⟨m, rfl⟩ : ∃ k, m = k + 1 := ⟨m - 1, by omega⟩
  have hy : y ∈ x.kids := by rw [e]; simp
  have e1 : (a.length : Int) < (x.kids.length : Int) := by rw [e]; exact lt_mid a y r
  have e2 : idx x.kids (a.length : Int) = some y := by rw [e]; exact idx_mid a y r
  have hw : IntKind.i64.wrap ((a.length : Int) + 1) = ((a ++ [y]).length : Int) := w64_mid a y r (by rw [← e]; omega)
  have hlen : a.length ≤ x.kids.length := by rw [e]; simp
  have ih := slift_lp rec x fr b B hB hv hvB hl H res hres r (a ++ [y]) (acc ++ [y.lft (fr + und x.kind a.length) b]) m (by simp [e]) (by simp [ha]) (by simpa using hm)
  have hu := und_range x.kind a.length
  have hs := sizes_mem hy
  rw [s_l01Lift_L1, if_pos e1, e2, bind_some', under_s, bind_some', w64_eq (by omega) (by omega), H y hy _ (by omega) (by omega), bind_some', chk_of (by simp; omega), hw, ih]
  simp only [lfts, List.length_append, List.length_singleton, List.append_assoc, List.singleton_append]
theorem slift_ev (t : T) : t.sm → t.vb 1000000000000 → Ev fun n => ∀ f b : Int, 0 ≤ f → f + (t.size : Int) ≤ 4611686018427387904 → -1 ≤ b → b ≤ 1000000000000 → s_l01Lift n t f b = some (t.lft f b) := by
 induction t using T.ind with
 | _ k n s ks ih =>
  intro hsm hvb
  rw [vb_eq] at hvb
  obtain ⟨_, hl, hks⟩ := sm_kids hsm
  refine (Ev.all fun t ht => ih t ht (hks t ht) (hvb.2 t ht)).up (ks.length + 1) fun fu hn H f b h0 h1 hb0 hb1 => ?_
  have hsz : (T.mk k n s ks).size = 1 + sizes ks := by simp only [T.size]
  rw [hsz] at h1
  have hlp := slift_lp (s_l01Lift fu) (T.mk k n s ks) f b 4611686018427387903 (by omega) h0 (by rw [tkids]; omega) hl (fun y hy v a c => H y hy v b a (by omega) hb0 hb1) _ (fun _ => rfl) ks [] [] fu rfl rfl (by omega)
  have hlp : s_l01Lift_L1 (s_l01Lift fu) (T.mk k n s ks) f b fu 0 [] = _ := hlp
  rw [s_l01Lift, hlp]
  show (if k = 5 then if n ≥ f then some (T.mk k (IntKind.i64.wrap (n + b)) s (lfts ks k 0 f b)) else some (T.mk k n s (lfts ks k 0 f b)) else some (T.mk k n s (lfts ks k 0 f b))) = some (T.mk k (if k = 5 ∧ n ≥ f then n + b else n) s (lfts ks k 0 f b))
  by_cases k5 : k = 5
  ·have := hvb.1 k5
   rw [if_pos k5]
   by_cases hv : n ≥ f
   ·rw [if_pos hv, if_pos ⟨k5, hv⟩, w64_eq (by omega) (by omega)]
   rw [if_neg hv, if_neg (fun q => hv q.2)]
  rw [if_neg k5, if_neg (fun q => k5 q.1)]

theorem ilift_lp (rec : T → Int → Int → Int → Option T) (x : T) (d fr b : Int) (B : Int) (hB : B ≤ 9223372036854775000) (hv : 0 ≤ fr) (hd : 0 ≤ d) (hvB : fr + d + sizes x.kids ≤ B) (hl : x.kids.length ≤ 1048576)
  (H : ∀ y ∈ x.kids, ∀ d : Int, 0 ≤ d → fr + d + (y.size : Int) ≤ B + 1 → rec y d fr b = some (y.lft (fr + d) b)) (res : List T → Option T)
  (hres : ∀ l, res l = if x.kind = 5 then (i_lift_c1 (T.mk x.kind x.n x.name l) d fr b).bind fun r29 => some r29 else some (T.mk x.kind x.n x.name l)) :
  ∀ (r a acc : List T) (m : Nat), x.kids = a ++ r → acc.length = a.length → r.length < m → i_turned__fn_i_lift_c1vv_L1 rec x d fr b m a.length acc = res (acc ++ lfts r x.kind a.length (fr + d) b)
 | [], a, acc, m, e, ha, hm => by
  obtain ⟨m, rfl⟩ : ∃ k, m = k + 1 := ⟨m - 1, by omega⟩
  rw [i_turned__fn_i_lift_c1vv_L1, e, if_neg (lt_end a), hres]
  simp only [lfts, List.append_nil]
 | y :: r, a, acc, m, e, ha, hm => by
  obtain ⟨m, rfl⟩ : ∃ k, m = k + 1 := ⟨m - 1, by omega⟩
  have hy : y ∈ x.kids := by rw [e]; simp
  have e1 : (a.length : Int) < (x.kids.length : Int) := by rw [e]; exact lt_mid a y r
  have e2 : idx x.kids (a.length : Int) = some y := by rw [e]; exact idx_mid a y r
  have hw : IntKind.i64.wrap ((a.length : Int) + 1) = ((a ++ [y]).length : Int) := w64_mid a y r (by rw [← e]; omega)
  have hlen : a.length ≤ x.kids.length := by rw [e]; simp
  have ih := ilift_lp rec x d fr b B hB hv hd hvB hl H res hres r (a ++ [y]) (acc ++ [y.lft (fr + (d + und x.kind a.length)) b]) m (by simp [e]) (by simp [ha]) (by simpa using hm)
  have hu := und_range x.kind a.length
  have hs := sizes_mem hy
  have hun : i_Tree_under x (a.length : Int) = some (und x.kind a.length) := under_c x a.length
  rw [i_turned__fn_i_lift_c1vv_L1, if_pos e1, e2, bind_some', hun, bind_some', w64_eq (by omega) (by omega), H y hy _ (by omega) (by omega), bind_some', chk_of (by simp; omega), hw, ih]
  simp only [lfts, List.length_append, List.length_singleton, List.append_assoc, List.singleton_append, Int.add_assoc]
theorem ilift_ev (t : T) : t.sm → t.vb 1000000000000 → Ev fun n => ∀ d f b : Int, 0 ≤ d → 0 ≤ f → f + d + (t.size : Int) ≤ 4611686018427387904 → -1 ≤ b → b ≤ 1000000000000 → i_turned__fn_i_lift_c1vv n t d f b = some (t.lft (f + d) b) := by
 induction t using T.ind with
 | _ k n s ks ih =>
  intro hsm hvb
  rw [vb_eq] at hvb
  obtain ⟨_, hl, hks⟩ := sm_kids hsm
  refine (Ev.all fun t ht => ih t ht (hks t ht) (hvb.2 t ht)).up (ks.length + 1) fun fu hn H d f b hd h0 h1 hb0 hb1 => ?_
  have hsz : (T.mk k n s ks).size = 1 + sizes ks := by simp only [T.size]
  rw [hsz] at h1
  have hlp := ilift_lp (i_turned__fn_i_lift_c1vv fu) (T.mk k n s ks) d f b 4611686018427387903 (by omega) h0 hd (by rw [tkids]; omega) hl (fun y hy d a c => H y hy d f b a h0 (by omega) hb0 hb1) _ (fun _ => rfl) ks [] [] fu rfl rfl (by omega)
  have hlp : i_turned__fn_i_lift_c1vv_L1 (i_turned__fn_i_lift_c1vv fu) (T.mk k n s ks) d f b fu 0 [] = _ := hlp
  rw [i_turned__fn_i_lift_c1vv, hlp]
  show (if k = 5 then (if n ≥ IntKind.i64.wrap (f + d) then some (T.mk k (IntKind.i64.wrap (n + b)) s (lfts ks k 0 (f + d) b)) else some (T.mk k n s (lfts ks k 0 (f + d) b))).bind (fun r29 => some r29) else some (T.mk k n s (lfts ks k 0 (f + d) b))) = some (T.mk k (if k = 5 ∧ n ≥ f + d then n + b else n) s (lfts ks k 0 (f + d) b))
  by_cases k5 : k = 5
  ·have := hvb.1 k5
   rw [if_pos k5]
   rw [w64_eq (by omega) (by omega)]
   by_cases hv : n ≥ f + d
   ·rw [if_pos hv, if_pos ⟨k5, hv⟩, w64_eq (by omega) (by omega), bind_some']
   rw [if_neg hv, if_neg (fun q => hv q.2), bind_some']
  rw [if_neg k5, if_neg (fun q => k5 q.1)]
theorem lift_ev (t : T) (hsm : t.sm) (hv : t.vb 1000000000000) (hs : t.size ≤ 1000000000000) : Ev fun n => ∀ f b : Int, 0 ≤ f → f ≤ 1000000000000 → -1 ≤ b → b ≤ 1000000000000 → s_l01Lift n t f b = some (t.lft f b) ∧ i_lift n t f b = some (t.lft f b) := by
 refine ((slift_ev t hsm hv).and (ilift_ev t hsm hv)).mp fun n ⟨h1, h2⟩ f b h0 hf hb0 hb1 => ⟨h1 f b h0 (by omega) hb0 hb1, ?_⟩
 unfold i_lift
 rw [h2 0 f b (by omega) h0 (by omega) hb0 hb1, bind_some', Int.add_zero]
theorem vb_mono {B C : Int} (h : B ≤ C) (t : T) : t.vb B → t.vb C := by
 induction t using T.ind with
 | _ k n s ks ih =>
  intro hv
  rw [vb_eq] at hv ⊢
  exact ⟨fun q => ⟨(hv.1 q).1, by have := (hv.1 q).2; omega⟩, fun t ht => ih t ht (hv.2 t ht)⟩

end Go.Am.YtoajlhhalpldfaaGreatDoor
