/- Plain laws: the law EncodeTyping. -/
import Derived.Test.YtpkeophkdemcpaaPuA
import Derived.Test.YtpkeophkdemcpaaMi4
import Derived.Test.YtpkeophkdemcpaaPvBigG
import Derived.Test.YtpkeophkdemcpaaPvTTree
import Derived.Test.YtpkeophkdemcpaaPvTypeA
import Derived.Test.YtpkeophkdemcpaaPuTypS
import Derived.Test.YtpkeophkdemcpaaEqEncT
namespace Go.Am
open Go
theorem zb_ok {α β : Type} (a : α) (k : α → Option (Rz β)) : zb (some (.ok a)) k = k a := rfl
end Go.Am
namespace Go.Am
open Go
mutual
theorem fbeq_eq : ∀ {a b : F}, a.beq b = true → a = b
 | .mk k n ks, .mk k2 n2 ks2, h => by
  simp only [F.beq, Bool.and_eq_true, decide_eq_true_eq] at h
  obtain ⟨rfl, rfl, h⟩ := h
  rw [fbeqs_eq h]
theorem fbeqs_eq : ∀ {a b : List F}, fbeqs a b = true → a = b
 | [], [], _ => rfl
 | a :: r, b :: s, h => by
  simp only [fbeqs, Bool.and_eq_true] at h
  rw [fbeq_eq h.1, fbeqs_eq h.2]
 | [], _ :: _, h => by simp [fbeqs] at h
 | _ :: _, [], h => by simp [fbeqs] at h
end
theorem tv_var {k n : Int} {fs hs : List F} {at_ : Int} {f : F} (h : (Pf.mk k n fs []).tv hs at_ = .ok f) : n < (hs.length : Int) := by
 rw [Pf.tv] at h
 split at h
 ·cases h
 omega
theorem tv_lam {k n : Int} {fs hs : List F} {x : Pf} {at_ : Int} {f : F} (h : (Pf.mk k n fs [x]).tv hs at_ = .ok f) : ∃ g, x.tv (hs ++ [fa fs]) (at_ + 1) = .ok g ∧ f = F.mk 2 0 [fa fs, g] := by
 rw [Pf.tv] at h
 split at h
 ·cases h
 rename_i g hq
 cases h
 exact ⟨g, hq, rfl⟩
theorem tv_app {k n : Int} {fs hs : List F} {x y : Pf} {r : List Pf} {at_ : Int} {f : F} (h : (Pf.mk k n fs (x :: y :: r)).tv hs at_ = .ok f) :
  ∃ g b c, x.tv hs (at_ + 1) = .ok g ∧ y.tv hs c = .ok b ∧ g.kind = 2 ∧ fa g.kids = b ∧ f = fb g.kids := by
 rw [Pf.tv] at h
 split at h
 ·cases h
 rename_i g hq
 split at h
 ·cases h
 rename_i b hq2
 split at h
 ·rename_i k1
  split at h
  ·rename_i k2
   cases h
   exact ⟨g, b, _, hq, hq2, k1, fbeq_eq k2, rfl⟩
  cases h
 cases h
theorem tv_any (t : Pf) : ∀ hs at_ f, t.tv hs at_ = .ok f → ∀ b, t.tv hs b = .ok f := by
 induction t using Pf.ind with
 | _ k n fs ks ih =>
  intro hs at_ f h b
  match ks, ih, h with
  | [], _, h =>
   rw [Pf.tv] at h ⊢
   split at h
   ·cases h
   rename_i q; rw [if_neg q]; exact h
  | [x], ih, h =>
   rw [Pf.tv] at h ⊢
   split at h
   ·cases h
   rename_i g hq; rw [ih x (by simp) _ _ _ hq (b + 1)]; exact h
  | x :: y :: r, ih, h =>
   rw [Pf.tv] at h ⊢
   split at h
   ·cases h
   rename_i g hq
   split at h
   ·cases h
   rename_i g2 hq2
   rw [ih x (by simp) _ _ _ hq (b + 1)]
   show (match y.tv hs (b + 1 + x.psz) with | .stop c p => (Rz.stop c p : Rz F) | .ok b' => if g.kind = 2 then (if (fa g.kids).beq b' = true then .ok (fb g.kids) else .stop 10 (b + 1 + x.psz)) else .stop 8 (b + 1)) = _
   rw [ih y (by simp) _ _ _ hq2 (b + 1 + x.psz)]
   split at h
   ·rename_i k1
    split at h
    ·rename_i k2
     show (if g.kind = 2 then (if (fa g.kids).beq g2 = true then Rz.ok (fb g.kids) else Rz.stop 10 (b + 1 + x.psz)) else Rz.stop 8 (b + 1)) = _
     rw [if_pos k1, if_pos k2]; exact h
    cases h
   cases h
theorem fsizes_at {fs : List F} {i : Nat} {x : F} (h : fs[i]? = some x) : x.size ≤ fsizes fs := by
 have := List.mem_of_getElem? h
 clear h
 induction fs with
 | nil => cases this
 | cons a r ih =>
  simp only [fsizes]
  rcases List.mem_cons.1 this with rfl | h
  ·omega
  have := ih h; omega
theorem fa_size (fs : List F) : (fa fs).size ≤ fsizes fs + 1 := by
 unfold fa
 cases e : fs[0]? with
 | none => show F.zz.size ≤ _; unfold F.zz F.size; simp [fsizes]
 | some x => have := fsizes_at e; show x.size ≤ _; omega
theorem fb_size (fs : List F) : (fb fs).size ≤ fsizes fs + 1 := by
 unfold fb
 cases e : fs[1]? with
 | none => show (F.mk 4 0 []).size ≤ _; unfold F.size; simp [fsizes]
 | some x => have := fsizes_at e; show x.size ≤ _; omega
theorem ty_size (t : Pf) : ∀ (hs : List F) (S : Nat), (∀ f ∈ hs, f.size ≤ S) → (t.ty hs).size ≤ S + 4 * t.size + 4 := by
 induction t using Pf.ind with
 | _ k n fs ks ih =>
  intro hs S hh
  match ks, ih with
  | [], _ =>
   rw [Pf.ty]
   cases e : hs[hs.length - 1 - n.toNat]? with
   | none => show F.zz.size ≤ _; unfold F.zz F.size; simp [fsizes]
   | some x => have := hh x (List.mem_of_getElem? e); show x.size ≤ _; omega
  | [x], ih =>
   rw [Pf.ty]
   have hf := fa_size fs
   have := ih x (by simp) (hs ++ [fa fs]) (S + (fa fs).size) (fun f hf => by
    rcases List.mem_append.1 hf with h | h
    ·have := hh f h; omega
    simp at h; subst h; omega)
   simp only [F.size, fsizes, Pf.size, psizes]
   omega
  | x :: y :: r, ih =>
   rw [Pf.ty]
   have := ih x (by simp) hs S hh
   have h2 := fb_size (x.ty hs).kids
   have h3 : fsizes (x.ty hs).kids + 1 = (x.ty hs).size := by
    generalize x.ty hs = q
    obtain ⟨u, v, l⟩ := q
    simp only [F.size, F.kids]; omega
   simp only [Pf.size, psizes]
   omega
theorem Pf_eta (x : Pf) : Pf.mk x.kind x.n x.forms x.kids = x := by cases x; rfl
end Go.Am
namespace Go.Am.Ytpkeophkdemcpaa
open Go Go.Am

def up1 (ls : List Int) : List Int := ls.map fun l => l + 1
theorem up1_snoc (ls : List Int) (d : Int) : up1 (ls ++ [d]) = up1 ls ++ [d + 1] := by unfold up1; simp

/-- The first levels, two by two. -/
def lv2 (o : Int) (k : Nat) : List Int := (List.range k).map fun (j : Nat) => o + 2 * (j : Int)
theorem lv2_succ (o : Int) (k : Nat) : lv2 o (k + 1) = lv2 o k ++ [o + 2 * (k : Int)] := by unfold lv2; rw [List.range_succ, List.map_append]; rfl
theorem lv2_len (o : Int) (k : Nat) : (lv2 o k).length = k := by unfold lv2; simp
theorem lv2_up (k : Nat) : lv2 1 k = up1 (lv2 0 k) := by
 unfold lv2 up1
 rw [List.map_map]
 refine List.map_congr_left fun j _ => ?_
 show 1 + 2 * (j : Int) = 0 + 2 * (j : Int) + 1
 omega
theorem lv2_lt (k : Nat) : ∀ l ∈ lv2 0 k, 0 ≤ l ∧ l + 1 < 2 * (k : Int) := fun l hl => by
 unfold lv2 at hl
 obtain ⟨j, hj, rfl⟩ := List.mem_map.1 hl
 have := List.mem_range.1 hj
 omega
theorem first2_lp (o : Int) (h0 : 0 ≤ o) (h1 : o ≤ 1) (K : Nat) (hK : K ≤ 1000) : ∀ (r a m : Nat), K = a + r → r < m → i_firstLevels_L1 K 2 o m a (lv2 o a) = some (lv2 o K)
 | 0, a, m, e, hm => by
  obtain ⟨m, rfl⟩ : ∃ k, m = k + 1 := ⟨m - 1, by omega⟩
  rw [i_firstLevels_L1, if_neg (by omega), show a = K by omega]
 | r + 1, a, m, e, hm => by
  obtain ⟨m, rfl⟩ : ∃ k, m = k + 1 := ⟨m - 1, by omega⟩
  have hl := lv2_len o a
  have w1 : IntKind.i64.wrap (2 * (a : Int)) = 2 * (a : Int) := w64_eq (by omega) (by omega)
  have w2 : IntKind.i64.wrap (o + 2 * (a : Int)) = o + 2 * (a : Int) := w64_eq (by omega) (by omega)
  have w3 : IntKind.i64.wrap ((a : Int) + 1) = ((a + 1 : Nat) : Int) := by rw [w64_eq (by omega) (by omega)]; push_cast; rfl
  rw [i_firstLevels_L1, if_pos (by omega), w1, w2, chk_of (by simp only [List.length_singleton]; omega), w3, ← lv2_succ]
  exact first2_lp o h0 h1 K hK r (a + 1) m (by omega) (by omega)
theorem level2_lp (K : Nat) (hK : K ≤ 1000) : ∀ (r a m : Nat), K = a + r → r < m → s_l09Level_L1 K 2 m a (lv2 0 a) = some (lv2 0 K)
 | 0, a, m, e, hm => by
  obtain ⟨m, rfl⟩ : ∃ k, m = k + 1 := ⟨m - 1, by omega⟩
  rw [s_l09Level_L1, if_neg (by omega), show a = K by omega]
 | r + 1, a, m, e, hm => by
  obtain ⟨m, rfl⟩ : ∃ k, m = k + 1 := ⟨m - 1, by omega⟩
  have hl := lv2_len 0 a
  have w1 : IntKind.i64.wrap ((a : Int) * 2) = 0 + 2 * (a : Int) := by rw [w64_eq (by omega) (by omega)]; omega
  have w3 : IntKind.i64.wrap ((a : Int) + 1) = ((a + 1 : Nat) : Int) := by rw [w64_eq (by omega) (by omega)]; push_cast; rfl
  rw [s_l09Level_L1, if_pos (by omega), w1, chk_of (by simp only [List.length_singleton]; omega), w3, ← lv2_succ]
  exact level2_lp K hK r (a + 1) m (by omega) (by omega)
theorem levels2_ev (K : Nat) (hK : K ≤ 1000) : Ev fun n => i_firstLevels n K 2 0 = some (lv2 0 K) ∧ i_firstLevels n K 2 1 = some (up1 (lv2 0 K)) ∧ s_l09Level n K 2 = some (lv2 0 K) :=
 ⟨K + 1, fun n hn => ⟨first2_lp 0 (by omega) (by omega) K hK K 0 n (by omega) (by omega), by rw [← lv2_up]; exact first2_lp 1 (by omega) (by omega) K hK K 0 n (by omega) (by omega), level2_lp K hK K 0 n (by omega) (by omega)⟩⟩

/-- What TypeOf answers. -/
def tvl (l : List F) (p : Pf) : F × Int × Int :=
 if 4096 < l.length then (F.zz, 2, 0) else if (decide (l.length ≤ 12) && l.all tgd) && (decide (p.size ≤ 150) && p.exok) then (p.tv l 0).enc else (F.zz, 1, 0)

theorem iTypeOf_ev (l : List F) (p : Pf) (hl : ∀ t ∈ l, t.sm) (hp : p.sm) : Ev fun n => i_TypeOf n l p = some (tvl l p) := by
 by_cases h4 : 4096 < l.length
 ·have he : tvl l p = (F.zz, 2, 0) := if_pos h4
  rw [he]
  refine (longs_ev l).mp fun n h => ?_
  unfold i_TypeOf; rw [h, bind_some', if_pos (by simpa using h4)]; rfl
 have h4' : l.length ≤ 4096 := by omega
 by_cases hok : ((decide (l.length ≤ 12) && l.all tgd) && (decide (p.size ≤ 150) && p.exok)) = true
 ·have hok2 := hok
  simp only [Bool.and_eq_true, decide_eq_true_eq] at hok2
  obtain ⟨⟨ho1, ho2⟩, ho3, ho4⟩ := hok2
  have he : tvl l p = (p.tv l 0).enc := by unfold tvl; rw [if_neg h4, if_pos hok]
  rw [he]
  have hps := ppsz_le p
  have hcs : (p.ty l).sm := ty_sm p hp l hl
  refine ((longs_ev l).and ((typesOK_ev l h4' hl).and ((implExprOK_ev p).and ((typeOf_ev p ho4 hp (by omega) l (fun f hf => ⟨hl f hf, by have := List.all_eq_true.1 ho2 f hf; simp only [tgd, Bool.and_eq_true, decide_eq_true_eq] at this; exact this.2⟩) (by omega)).and (clone_ev _ hcs))))).mp fun n h => ?_
  obtain ⟨h1, ⟨h2, h3⟩, h5, h6, h7⟩ := h
  obtain ⟨h6i, h6s⟩ := h6 0 (by omega) (by omega)
  have hA : (decide (l.length ≤ 12) && l.all tgd) = true := by rw [ho2, decide_eq_true ho1]; rfl
  have hB : (decide (p.size ≤ 150) && p.exok) = true := by rw [ho4, decide_eq_true ho3]; rfl
  rw [hA] at h3
  rw [hB] at h5
  unfold i_TypeOf i_TypeOf_c1
  rw [h1, bind_some', if_neg (by simpa using h4), h3, bind_some', if_neg (by decide), h5, bind_some', if_neg (by decide), h6i, zb_some]
  cases hz : p.tv l 0 with
  | stop c q =>
   have hc := tv_stop p l 0 c q hz
   show (if (c != 0) = true then some (F.mk 0 0 [], c, q) else none) = _
   rw [if_pos (by simp [hc])]; rfl
  | ok f =>
   obtain rfl := tv_ok _ _ _ _ hz
   show (if ((0 : Int) != 0) = true then some (F.mk 0 0 [], (0 : Int), (0 : Int)) else (i_cloneType n (p.ty l)).bind fun r39 => some (r39, (0 : Int), (0 : Int))) = some (p.ty l, 0, 0)
   rw [if_neg (by decide), h7]; rfl
 have he : tvl l p = (F.zz, 1, 0) := by unfold tvl; rw [if_neg h4, if_neg hok]
 rw [he]
 refine ((longs_ev l).and ((typesOK_ev l h4' hl).and (implExprOK_ev p))).mp fun n h => ?_
 obtain ⟨h1, ⟨h2, h3⟩, h5⟩ := h
 unfold i_TypeOf
 rw [h1, bind_some', if_neg (by simpa using h4), h3, bind_some', h5]
 cases hA : (decide (l.length ≤ 12) && l.all tgd) with
 | false => rw [if_pos (by decide)]; rfl
 | true =>
  have hB : (decide (p.size ≤ 150) && p.exok) = false := by
   cases hB : (decide (p.size ≤ 150) && p.exok) with
   | false => rfl
   | true => rw [hA, hB] at hok; exact absurd rfl hok
  rw [if_neg (by decide), bind_some', hB, if_pos (by decide)]; rfl

def t00 : T := T.mk 0 0 ⟨#[]⟩ []
end Go.Am.Ytpkeophkdemcpaa
