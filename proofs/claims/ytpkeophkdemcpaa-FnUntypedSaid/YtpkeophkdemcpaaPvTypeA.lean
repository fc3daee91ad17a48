/- Plain laws: what type an expression has: the program's way and the reference's. -/
import Derived.Test.YtpkeophkdemcpaaPuB
import Derived.Test.YtpkeophkdemcpaaMi3
import Derived.Test.YtpkeophkdemcpaaSmType
import Derived.Test.YtpkeophkdemcpaaPvExpr
import Derived.Test.YtpkeophkdemcpaaMxTypeOf
namespace Go.Am
open Go

theorem zb_some {α β : Type} (z : Rz α) (k : α → Option (Rz β)) : zb (some z) k = z.bd k := rfl

mutual
def Pf.psz : Pf → Int
 | .mk _ _ _ ks => 1 + ppszs ks
def ppszs : List Pf → Int
 | [] => 0
 | t :: r => t.psz + ppszs r
end
theorem ppszs_le_of : ∀ ks : List Pf, (∀ t ∈ ks, 1 ≤ t.psz ∧ t.psz ≤ (t.size : Int)) → 0 ≤ ppszs ks ∧ ppszs ks ≤ (psizes ks : Int)
 | [], _ => by simp [ppszs, psizes]
 | t :: r, h => by
  have h1 := h t (List.mem_cons_self ..)
  have h2 := ppszs_le_of r fun t ht => h t (List.mem_cons_of_mem _ ht)
  simp only [ppszs, psizes]
  push_cast
  omega
theorem ppsz_le (t : Pf) : 1 ≤ t.psz ∧ t.psz ≤ (t.size : Int) := by
 induction t using Pf.ind with
 | _ k n fs ks ih =>
  have := ppszs_le_of ks ih
  simp only [Pf.psz, Pf.size]
  push_cast
  omega
theorem ppszs_le (ks : List Pf) : 0 ≤ ppszs ks ∧ ppszs ks ≤ (psizes ks : Int) := ppszs_le_of ks fun t _ => ppsz_le t

def F.zz : F := F.mk 0 0 []
def fa (fs : List F) : F := (fs[0]?).getD F.zz
def fb (fs : List F) : F := (fs[1]?).getD (F.mk 4 0 [])
theorem psizes_mem : ∀ {ks : List Pf} {t : Pf}, t ∈ ks → t.size ≤ psizes ks
 | [], t, h => by cases h
 | x :: r, t, h => by
  simp only [psizes]
  rcases List.mem_cons.1 h with rfl | h
  ·omega
  have := psizes_mem h; omega

def Rz.enc : Rz F → F × Int × Int
 | .ok f => (f, 0, 0)
 | .stop c p => (F.zz, c, p)

theorem fzz_sm : F.zz.sm := by unfold F.zz F.sm; exact ⟨by simp, fun t h => by cases h⟩
theorem f2_sm {k n : Int} {a b : F} (ha : a.sm) (hb : b.sm) : (F.mk k n [a, b]).sm := by
 unfold F.sm; exact ⟨by simp, fun t h => by simp at h; rcases h with rfl | rfl <;> assumption⟩
theorem fbot_sm : (F.mk 4 0 []).sm := by unfold F.sm; exact ⟨by simp, fun t h => by cases h⟩
theorem fa_sm {fs : List F} (h : ∀ t ∈ fs, t.sm) : (fa fs).sm := by
 unfold fa
 cases e : fs[0]? with
 | none => exact fzz_sm
 | some x => exact h x (List.mem_of_getElem? e)
theorem fb_sm {fs : List F} (h : ∀ t ∈ fs, t.sm) : (fb fs).sm := by
 unfold fb
 cases e : fs[1]? with
 | none => exact fbot_sm
 | some x => exact h x (List.mem_of_getElem? e)
end Go.Am
namespace Go.Am
open Go

def Pf.tv : Pf → List F → Int → Rz F
 | .mk _ n _ [], hs, at_ => if n ≥ (hs.length : Int) then .stop 7 at_ else .ok ((hs[hs.length - 1 - n.toNat]?).getD F.zz)
 | .mk _ _ fs [x], hs, at_ => match x.tv (hs ++ [fa fs]) (at_ + 1) with
  | .stop c p => .stop c p
  | .ok f => .ok (F.mk 2 0 [fa fs, f])
 | .mk _ _ _ (x :: y :: _), hs, at_ => match x.tv hs (at_ + 1) with
  | .stop c p => .stop c p
  | .ok a => match y.tv hs (at_ + 1 + x.psz) with
   | .stop c p => .stop c p
   | .ok b => if a.kind = 2 then (if (fa a.kids).beq b = true then .ok (fb a.kids) else .stop 10 (at_ + 1 + x.psz)) else .stop 8 (at_ + 1)
def Pf.ty : Pf → List F → F
 | .mk _ n _ [], hs => (hs[hs.length - 1 - n.toNat]?).getD F.zz
 | .mk _ _ fs [x], hs => F.mk 2 0 [fa fs, x.ty (hs ++ [fa fs])]
 | .mk _ _ _ (x :: _ :: _), hs => fb (x.ty hs).kids

theorem tv_ok (t : Pf) : ∀ hs at_ f, t.tv hs at_ = .ok f → f = t.ty hs := by
 induction t using Pf.ind with
 | _ k n fs ks ih =>
  intro hs at_ f h
  match ks, ih, h with
  | [], _, h =>
   rw [Pf.tv] at h
   rw [Pf.ty]
   split at h
   ·cases h
   cases h; rfl
  | [x], ih, h =>
   rw [Pf.tv] at h
   rw [Pf.ty]
   split at h
   ·cases h
   rename_i hq; cases h; rw [ih x (by simp) _ _ _ hq]
  | x :: y :: r, ih, h =>
   rw [Pf.tv] at h
   rw [Pf.ty]
   split at h
   ·cases h
   rename_i a hq
   split at h
   ·cases h
   split at h
   ·split at h
    ·cases h; rw [ih x (by simp) _ _ _ hq]
    cases h
   cases h
theorem tv_stop (t : Pf) : ∀ hs at_ c p, t.tv hs at_ = .stop c p → c ≠ 0 := by
 induction t using Pf.ind with
 | _ k n fs ks ih =>
  intro hs at_ c p h
  match ks, ih, h with
  | [], _, h =>
   rw [Pf.tv] at h
   split at h
   ·cases h; decide
   cases h
  | [x], ih, h =>
   rw [Pf.tv] at h
   split at h
   ·rename_i hq; cases h; exact ih x (by simp) _ _ _ _ hq
   cases h
  | x :: y :: r, ih, h =>
   rw [Pf.tv] at h
   split at h
   ·rename_i hq; cases h; exact ih x (by simp) _ _ _ _ hq
   split at h
   ·rename_i hq; cases h; exact ih y (by simp) _ _ _ _ hq
   split at h
   ·split at h
    ·cases h
    cases h; decide
   cases h; decide

theorem ty_sm (t : Pf) : t.sm → ∀ hs : List F, (∀ f ∈ hs, f.sm) → (t.ty hs).sm := by
 induction t using Pf.ind with
 | _ k n fs ks ih =>
  intro hsm hs hh
  obtain ⟨⟨_, hfs⟩, _, hks⟩ := psm_kids hsm
  match ks, ih, hks with
  | [], _, _ =>
   rw [Pf.ty]
   cases e : hs[hs.length - 1 - n.toNat]? with
   | none => exact fzz_sm
   | some x => exact hh x (List.mem_of_getElem? e)
  | [x], ih, hks =>
   rw [Pf.ty]
   refine f2_sm (fa_sm hfs) (ih x (by simp) (hks x (by simp)) _ fun f hf => ?_)
   rcases List.mem_append.1 hf with h | h
   ·exact hh f h
   simp at h; subst h; exact fa_sm hfs
  | x :: y :: r, ih, hks =>
   rw [Pf.ty]
   have := ih x (by simp) (hks x (by simp)) hs hh
   generalize x.ty hs = q at this
   obtain ⟨a, b, l⟩ := q
   exact fb_sm (fsm_kids this).2

theorem ftyoks_mem' : ∀ {ks : List F}, ftyoks ks = true → ∀ t ∈ ks, t.tyok = true
 | [], _, t, h => by cases h
 | a :: r, h, t, ht => by
  simp only [ftyoks, Bool.and_eq_true] at h
  rcases List.mem_cons.1 ht with rfl | ht
  ·exact h.1
  exact ftyoks_mem' h.2 t ht
theorem tyok_fun {f : F} (h : f.tyok = true) (hk : f.kind = 2) : ∃ a b, f.kids = [a, b] ∧ a.tyok = true ∧ b.tyok = true := by
 obtain ⟨k, n, ks⟩ := f
 have hk : k = 2 := hk
 subst hk
 rw [show (F.mk 2 n ks).tyok = (decide (n = 0) && (decide (ks.length = 2) && ftyoks ks)) by simp only [F.tyok]; rfl] at h
 simp only [Bool.and_eq_true, decide_eq_true_eq] at h
 match ks, h with
 | [a, b], h => exact ⟨a, b, rfl, ftyoks_mem' h.2.2 a (by simp), ftyoks_mem' h.2.2 b (by simp)⟩
theorem fun_tyok {a b : F} (ha : a.tyok = true) (hb : b.tyok = true) : (F.mk 2 0 [a, b]).tyok = true := by
 simp only [F.tyok, ftyoks, ha, hb]; rfl

theorem exoks_mem' : ∀ {ks : List Pf}, exoks ks = true → ∀ t ∈ ks, t.exok = true
 | [], _, t, h => by cases h
 | a :: r, h, t, ht => by
  simp only [exoks, Bool.and_eq_true] at h
  rcases List.mem_cons.1 ht with rfl | ht
  ·exact h.1
  exact exoks_mem' h.2 t ht
theorem exok_rules {k n : Int} {fs : List F} {ks : List Pf} (h : (Pf.mk k n fs ks).exok = true) :
  (k = 1 ∧ 0 ≤ n ∧ n ≤ 100 ∧ fs = [] ∧ ks = []) ∨ (k = 3 ∧ ∃ a x, fs = [a] ∧ ks = [x] ∧ a.tyok = true ∧ x.exok = true) ∨ (k = 2 ∧ ∃ x y, fs = [] ∧ ks = [x, y] ∧ x.exok = true ∧ y.exok = true) := by
 simp only [Pf.exok, Bool.and_eq_true, decide_eq_true_eq, Bool.or_eq_true] at h
 obtain ⟨h0, h1, h2, h3, h4, h5, h6, h7⟩ := h
 unfold eshape at h0 h1 h2
 by_cases k1 : k = 1
 ·subst k1
  simp only [if_true] at h1 h2
  exact .inl ⟨rfl, h3, h4, List.length_eq_zero_iff.1 (by omega), List.length_eq_zero_iff.1 (by omega)⟩
 by_cases k2 : k = 2
 ·subst k2
  simp at h1 h2
  refine .inr (.inr ⟨rfl, ?_⟩)
  match fs, h1, ks, h2, h7 with
  | [], _, [x, y], _, h7 => exact ⟨x, y, rfl, rfl, exoks_mem' h7 x (by simp), exoks_mem' h7 y (by simp)⟩
 by_cases k3 : k = 3
 ·subst k3
  simp at h1 h2
  refine .inr (.inl ⟨rfl, ?_⟩)
  match fs, h1, h6, ks, h2, h7 with
  | [a], _, h6, [x], _, h7 => exact ⟨a, x, rfl, rfl, ftyoks_mem' h6 a (by simp), exoks_mem' h7 x (by simp)⟩
 rw [if_neg k1, if_neg k2, if_neg k3] at h0; exact absurd h0 (by decide)

theorem tv_tyok (t : Pf) : t.exok = true → ∀ hs : List F, (∀ f ∈ hs, f.tyok = true) → ∀ at_ f, t.tv hs at_ = .ok f → f.tyok = true := by
 induction t using Pf.ind with
 | _ k n fs ks ih =>
  intro hok hs hh at_ f h
  rcases exok_rules hok with ⟨rfl, hn0, hn1, rfl, rfl⟩ | ⟨rfl, a, x, rfl, rfl, ha, hx⟩ | ⟨rfl, x, y, rfl, rfl, hx, hy⟩
  ·rw [Pf.tv] at h
   split at h
   ·cases h
   rename_i hc
   cases h
   rw [List.getElem?_eq_getElem (by omega)]
   exact hh _ (List.getElem_mem _)
  ·rw [Pf.tv] at h
   split at h
   ·cases h
   rename_i hq
   cases h
   refine fun_tyok ha (ih x (by simp) hx _ (fun f hf => ?_) _ _ hq)
   rcases List.mem_append.1 hf with h | h
   ·exact hh f h
   simp at h; subst h; exact ha
  rw [Pf.tv] at h
  split at h
  ·cases h
  rename_i q hq
  have hqt := ih x (by simp) hx hs hh _ _ hq
  split at h
  ·cases h
  split at h
  ·rename_i hk
   split at h
   ·cases h
    obtain ⟨u, v, e, _, hv⟩ := tyok_fun hqt hk
    rw [e]; exact hv
   cases h
  cases h

end Go.Am
namespace Go.Am.Ytpkeophkdemcpaa
open Go Go.Am

theorem isizeE_loop (rec : Pf → Option Int) (x : Pf) (hl : x.kids.length ≤ 1048576) (H : ∀ y ∈ x.kids, rec y = some y.psz) :
  ∀ (r a : List Pf) (m : Nat) (i : Int), x.kids = a ++ r → r.length < m → 0 ≤ i → i + ppszs r ≤ 1000000000 → i_Expr_size__c_L1 rec x m i a.length = some (i + ppszs r)
 | [], a, m, i, e, hm, h0, hb => by
  obtain ⟨m, rfl⟩ : ∃ k, m = k + 1 := ⟨m - 1, by omega⟩
  rw [i_Expr_size__c_L1, e, if_neg (lt_end a)]; simp [ppszs]
 | y :: r, a, m, i, e, hm, h0, hb => by
  obtain ⟨m, rfl⟩ : ∃ k, m = k + 1 := ⟨m - 1, by omega⟩
  have hy : y ∈ x.kids := by rw [e]; simp
  have e1 : (a.length : Int) < (x.kids.length : Int) := by rw [e]; exact lt_mid a y r
  have e2 : idx x.kids (a.length : Int) = some y := by rw [e]; exact idx_mid a y r
  have h1 := ppsz_le y
  have h2 := ppszs_le r
  simp only [ppszs] at hb
  rw [i_Expr_size__c_L1, if_pos e1, e2, bind_some', H y hy, bind_some', w64_eq (x := i + y.psz) (by omega) (by omega)]
  rw [show IntKind.i64.wrap ((a.length : Int) + 1) = ((a ++ [y]).length : Int) from w64_mid a y r (by rw [← e]; omega)]
  rw [isizeE_loop rec x hl H r (a ++ [y]) m (i + y.psz) (by simp [e]) (by simpa using hm) (by omega) (by omega)]
  simp only [ppszs]
  congr 1
  omega

theorem isizeE_ev (t : Pf) (hsm : t.sm) (hb : t.size ≤ 1000000) : Ev fun n => i_Expr_size__c n t = some t.psz := by
 induction t using Pf.ind with
 | _ k n fs ks ih =>
  obtain ⟨_, hl, hks⟩ := psm_kids hsm
  have hle := ppszs_le ks
  have hz : ∀ t ∈ ks, t.size ≤ 1000000 := fun t ht => by
   have := psizes_mem ht
   simp only [Pf.size] at hb
   omega
  simp only [Pf.size] at hb
  refine (Ev.all fun t ht => ih t ht (hks t ht) (hz t ht)).up (ks.length + 1) fun fu hn H => ?_
  rw [i_Expr_size__c]
  have := isizeE_loop _ (Pf.mk k n fs ks) hl H ks [] fu 1 rfl (by omega) (by omega) (by omega)
  simp only [Pf.psz]
  exact this

theorem ssizeE_loop (rec : Pf → Option Int) (x : Pf) (hl : x.kids.length ≤ 1048576) (H : ∀ y ∈ x.kids, rec y = some y.psz) :
  ∀ (r a : List Pf) (m : Nat) (i : Int), x.kids = a ++ r → r.length < m → 0 ≤ i → i + ppszs r ≤ 1000000000 → s_l09Size_L1 rec x m i a.length = some (i + ppszs r)
 | [], a, m, i, e, hm, h0, hb => by
  obtain ⟨m, rfl⟩ : ∃ k, m = k + 1 := ⟨m - 1, by omega⟩
  rw [s_l09Size_L1, e, if_neg (lt_end a)]; simp [ppszs]
 | y :: r, a, m, i, e, hm, h0, hb => by
  obtain ⟨m, rfl⟩ : ∃ k, m = k + 1 := ⟨m - 1, by omega⟩
  have hy : y ∈ x.kids := by rw [e]; simp
  have e1 : (a.length : Int) < (x.kids.length : Int) := by rw [e]; exact lt_mid a y r
  have e2 : idx x.kids (a.length : Int) = some y := by rw [e]; exact idx_mid a y r
  have h1 := ppsz_le y
  have h2 := ppszs_le r
  simp only [ppszs] at hb
  rw [s_l09Size_L1, if_pos e1, e2, bind_some', H y hy, bind_some', w64_eq (x := i + y.psz) (by omega) (by omega)]
  rw [show IntKind.i64.wrap ((a.length : Int) + 1) = ((a ++ [y]).length : Int) from w64_mid a y r (by rw [← e]; omega)]
  rw [ssizeE_loop rec x hl H r (a ++ [y]) m (i + y.psz) (by simp [e]) (by simpa using hm) (by omega) (by omega)]
  simp only [ppszs]
  congr 1
  omega

theorem ssizeE_ev (t : Pf) (hsm : t.sm) (hb : t.size ≤ 1000000) : Ev fun n => s_l09Size n t = some t.psz := by
 induction t using Pf.ind with
 | _ k n fs ks ih =>
  obtain ⟨_, hl, hks⟩ := psm_kids hsm
  have hle := ppszs_le ks
  have hz : ∀ t ∈ ks, t.size ≤ 1000000 := fun t ht => by
   have := psizes_mem ht
   simp only [Pf.size] at hb
   omega
  simp only [Pf.size] at hb
  refine (Ev.all fun t ht => ih t ht (hks t ht) (hz t ht)).up (ks.length + 1) fun fu hn H => ?_
  rw [s_l09Size]
  have := ssizeE_loop _ (Pf.mk k n fs ks) hl H ks [] fu 1 rfl (by omega) (by omega) (by omega)
  simp only [Pf.psz]
  exact this

theorem hypt_idx {hs : List F} {n : Int} (h0 : 0 ≤ n) (hl : hs.length ≤ 1048576) (h : ¬ n ≥ (hs.length : Int)) :
  idx hs (IntKind.i64.wrap ((IntKind.i64.wrap ((hs.length : Int) - 1)) - n)) = some ((hs[hs.length - 1 - n.toNat]?).getD F.zz) := by
 rw [w64_eq (x := (hs.length : Int) - 1) (by omega) (by omega), w64_eq (by omega) (by omega)]
 have e : (hs.length : Int) - 1 - n = ((hs.length - 1 - n.toNat : Nat) : Int) := by omega
 rw [e, idx_nat, List.getElem?_eq_getElem (by omega)]
 rfl

def TypeAt (t : Pf) (hs : List F) (n : Nat) : Prop := ∀ at_, 0 ≤ at_ → at_ + t.psz ≤ 1000000 → i_typeOf n hs t at_ = some (t.tv hs at_) ∧ s_l09TypeOf n hs t at_ = some (t.tv hs at_).enc

theorem typeOf_ev (t : Pf) : t.exok = true → t.sm → t.size ≤ 1000000 → ∀ hs : List F, (∀ f ∈ hs, f.sm ∧ f.tyok = true) → hs.length + t.size ≤ 1000000 → Ev (TypeAt t hs) := by
 induction t using Pf.ind with
 | _ k n fs ks ih =>
  intro hok hsm hsz hs hhs hlen
  obtain ⟨⟨hfl, hfs⟩, hl, hks⟩ := psm_kids hsm
  have hsz' := hsz
  simp only [Pf.size] at hsz' hlen
  rcases exok_rules hok with ⟨rfl, hn0, hn1, rfl, rfl⟩ | ⟨rfl, a, x, rfl, rfl, ha, hx⟩ | ⟨rfl, x, y, rfl, rfl, hx, hy⟩
  ·refine ⟨1, fun fu hfu at_ h0 hb => ?_⟩
   obtain ⟨fu, rfl⟩ : ∃ q, fu = q + 1 := ⟨fu - 1, by omega⟩
   have ei : i_typeOf (fu + 1) hs (Pf.mk 1 n [] []) at_ = if n ≥ (hs.length : Int) then some (.stop 7 at_) else (idx hs (IntKind.i64.wrap ((IntKind.i64.wrap ((hs.length : Int) - 1)) - n))).bind fun y => some (.ok y) := by rw [i_typeOf]; rfl
   have es : s_l09TypeOf (fu + 1) hs (Pf.mk 1 n [] []) at_ = if n ≥ (hs.length : Int) then some (F.mk 0 0 [], 7, at_) else (idx hs (IntKind.i64.wrap ((IntKind.i64.wrap ((hs.length : Int) - 1)) - n))).bind fun y => some (y, 0, 0) := by rw [s_l09TypeOf]; rfl
   rw [ei, es, Pf.tv]
   by_cases hh : n ≥ (hs.length : Int)
   ·rw [if_pos hh, if_pos hh, if_pos hh]; exact ⟨rfl, rfl⟩
   rw [if_neg hh, if_neg hh, if_neg hh, hypt_idx hn0 (by omega) hh]; exact ⟨rfl, rfl⟩
  ·have has : a.sm := hfs a (by simp)
   simp only [psizes, fsizes] at hsz' hlen
   have E1 := ih x (by simp) hx (hks x (by simp)) (by omega) (hs ++ [a]) (fun f hf => by
    rcases List.mem_append.1 hf with h | h
    ·exact hhs f h
    simp at h; subst h; exact ⟨has, ha⟩) (by simp; omega)
   refine E1.up 0 fun fu _ h at_ h0 hb => ?_
   have hb' : at_ + 1 + x.psz ≤ 1000000 := by simp only [Pf.psz, ppszs] at hb; omega
   have p0 := ppsz_le x
   have hw1 : IntKind.i64.wrap (at_ + 1) = at_ + 1 := w64_eq (by omega) (by omega)
   have ei : i_typeOf (fu + 1) hs (Pf.mk 3 n [a] [x]) at_ = chk (hs.length + [a].length ≤ 1099511627776) (zb (i_typeOf fu (hs ++ [a]) x (IntKind.i64.wrap (at_ + 1))) fun r => some (.ok (F.mk 2 0 [a, r]))) := by rw [i_typeOf]; rfl
   have es : s_l09TypeOf (fu + 1) hs (Pf.mk 3 n [a] [x]) at_ = (s_l09More hs a).bind fun r22 => (s_l09TypeOf fu r22 x (IntKind.i64.wrap (at_ + 1))).bind fun r29 => if (r29.2.1 != 0) = true then some (F.mk 0 0 [], r29.2.1, r29.2.2) else some (F.mk 2 0 [a, r29.1], 0, 0) := by rw [s_l09TypeOf]; rfl
   have em : s_l09More hs a = some (hs ++ [a]) := by
    unfold s_l09More
    rw [chk_of (by simp; omega), chk_of (by simp; omega)]
   obtain ⟨hi, hs2⟩ := h (at_ + 1) (by omega) hb'
   rw [ei, es, em, bind_some', hw1, hi, hs2, bind_some', chk_of (by simp; omega), zb_some, Pf.tv]
   show _ = some (match x.tv (hs ++ [a]) (at_ + 1) with | .stop c p => (Rz.stop c p : Rz F) | .ok f => Rz.ok (F.mk 2 0 [a, f])) ∧ _ = some (Rz.enc (match x.tv (hs ++ [a]) (at_ + 1) with | .stop c p => (Rz.stop c p : Rz F) | .ok f => Rz.ok (F.mk 2 0 [a, f])))
   cases hz : x.tv (hs ++ [a]) (at_ + 1) with
   | stop c p =>
    have hc := tv_stop x _ _ c p hz
    refine ⟨rfl, ?_⟩
    have : ((Rz.stop c p : Rz F).enc.2.1 != 0) = true := by simp [Rz.enc, hc]
    rw [if_pos this]; rfl
   | ok f => exact ⟨rfl, by rw [if_neg (by simp [Rz.enc])]; rfl⟩
  simp only [psizes, fsizes] at hsz' hlen
  have hxs : (x.ty hs).sm := ty_sm x (hks x (by simp)) hs fun f hf => (hhs f hf).1
  have hfs2 : (fa (x.ty hs).kids).sm := by
   generalize x.ty hs = q at hxs
   obtain ⟨u, v, l⟩ := q
   exact fa_sm (fsm_kids hxs).2
  have E1 := ih x (by simp) hx (hks x (by simp)) (by omega) hs hhs (by omega)
  have E2 := ih y (by simp) hy (hks y (by simp)) (by omega) hs hhs (by omega)
  have E3 := sameI_ev (fa (x.ty hs).kids) hfs2
  have E4 := sameS_ev (fa (x.ty hs).kids) hfs2
  have E5 := isizeE_ev x (hks x (by simp)) (by omega)
  have E6 := ssizeE_ev x (hks x (by simp)) (by omega)
  refine (E1.and (E2.and (E3.and (E4.and (E5.and E6))))).up 0 fun fu _ h at_ h0 hb => ?_
  obtain ⟨h1, h2, h3, h4, h5, h6⟩ := h
  have p1 := ppsz_le x
  have p2 := ppsz_le y
  have hb' : at_ + 1 + x.psz + y.psz ≤ 1000000 := by simp only [Pf.psz, ppszs] at hb; omega
  have hw1 : IntKind.i64.wrap (at_ + 1) = at_ + 1 := w64_eq (by omega) (by omega)
  have hw2 : IntKind.i64.wrap (at_ + 1 + x.psz) = at_ + 1 + x.psz := w64_eq (by omega) (by omega)
  obtain ⟨h1i, h1s⟩ := h1 (at_ + 1) (by omega) (by omega)
  obtain ⟨h2i, h2s⟩ := h2 (at_ + 1 + x.psz) (by omega) (by omega)
  have ei : i_typeOf (fu + 1) hs (Pf.mk 2 n [] [x, y]) at_ = (i_Expr_size__c fu x).bind fun r52 => zb (i_typeOf fu hs x (IntKind.i64.wrap (at_ + 1))) fun r64 => zb (i_typeOf fu hs y (IntKind.i64.wrap ((IntKind.i64.wrap (at_ + 1)) + r52))) fun r78 =>
    if (r64.kind != 2) = true then some (.stop 8 (IntKind.i64.wrap (at_ + 1))) else (idx r64.kids 0).bind fun y88 => (i_sameType fu y88 r78).bind fun r93 => if (!r93) = true then some (.stop 10 (IntKind.i64.wrap ((IntKind.i64.wrap (at_ + 1)) + r52))) else (idx r64.kids 1).bind fun y101 => some (.ok y101) := by rw [i_typeOf]; rfl
  have es : s_l09TypeOf (fu + 1) hs (Pf.mk 2 n [] [x, y]) at_ = (s_l09TypeOf fu hs x (IntKind.i64.wrap (at_ + 1))).bind fun r110 => if (r110.2.1 != 0) = true then some (F.mk 0 0 [], r110.2.1, r110.2.2) else (s_l09Size fu x).bind fun r133 => (s_l09TypeOf fu hs y (IntKind.i64.wrap ((IntKind.i64.wrap (at_ + 1)) + r133))).bind fun r145 => if (r145.2.1 != 0) = true then some (F.mk 0 0 [], r145.2.1, r145.2.2) else
    if (r110.1.kind != 2) = true then some (F.mk 0 0 [], 8, IntKind.i64.wrap (at_ + 1)) else (idx r110.1.kids 0).bind fun y164 => (s_l09Same fu y164 r145.1).bind fun r169 => if (!r169) = true then some (F.mk 0 0 [], 10, IntKind.i64.wrap ((IntKind.i64.wrap (at_ + 1)) + r133)) else (idx r110.1.kids 1).bind fun y177 => some (y177, 0, 0) := by rw [s_l09TypeOf]; rfl
  rw [ei, es, h5, bind_some', hw1, h1i, h1s, bind_some', zb_some, Pf.tv]
  cases hz : x.tv hs (at_ + 1) with
  | stop c p =>
   have hc := tv_stop x _ _ c p hz
   refine ⟨rfl, ?_⟩
   have : ((Rz.stop c p : Rz F).enc.2.1 != 0) = true := by simp [Rz.enc, hc]
   rw [if_pos this]; rfl
  | ok q =>
   have hqt := tv_tyok x hx hs (fun f hf => (hhs f hf).2) _ _ hz
   obtain rfl := tv_ok x _ _ _ hz
   rw [if_neg (by simp [Rz.enc]), h6, bind_some', hw2, h2i, h2s, bind_some']
   show (zb (some (y.tv hs (at_ + 1 + x.psz))) _) = _ ∧ _
   rw [zb_some]
   cases hz2 : y.tv hs (at_ + 1 + x.psz) with
   | stop c p =>
    have hc := tv_stop y _ _ c p hz2
    refine ⟨rfl, ?_⟩
    have : ((Rz.stop c p : Rz F).enc.2.1 != 0) = true := by simp [Rz.enc, hc]
    rw [if_pos this]; rfl
   | ok b =>
    rw [if_neg (by simp [Rz.enc])]
    show (if ((x.ty hs).kind != 2) = true then some (Rz.stop 8 (at_ + 1)) else (idx (x.ty hs).kids 0).bind fun y88 => (i_sameType fu y88 b).bind fun r93 => if (!r93) = true then some (Rz.stop 10 (at_ + 1 + x.psz)) else (idx (x.ty hs).kids 1).bind fun y101 => some (Rz.ok y101)) =
      some (if (x.ty hs).kind = 2 then (if (fa (x.ty hs).kids).beq b = true then Rz.ok (fb (x.ty hs).kids) else Rz.stop 10 (at_ + 1 + x.psz)) else Rz.stop 8 (at_ + 1)) ∧
     (if ((x.ty hs).kind != 2) = true then some (F.mk 0 0 [], (8 : Int), at_ + 1) else (idx (x.ty hs).kids 0).bind fun y164 => (s_l09Same fu y164 b).bind fun r169 => if (!r169) = true then some (F.mk 0 0 [], (10 : Int), at_ + 1 + x.psz) else (idx (x.ty hs).kids 1).bind fun y177 => some (y177, (0 : Int), (0 : Int))) =
      some (Rz.enc (if (x.ty hs).kind = 2 then (if (fa (x.ty hs).kids).beq b = true then Rz.ok (fb (x.ty hs).kids) else Rz.stop 10 (at_ + 1 + x.psz)) else Rz.stop 8 (at_ + 1)))
    by_cases hk : (x.ty hs).kind = 2
    ·obtain ⟨u, v, e, _, _⟩ := tyok_fun hqt hk
     have e1 : idx (x.ty hs).kids 0 = some (fa (x.ty hs).kids) := by rw [e]; rfl
     have e2 : idx (x.ty hs).kids 1 = some (fb (x.ty hs).kids) := by rw [e]; rfl
     have n1 : ¬ ((x.ty hs).kind != 2) = true := by simp [hk]
     rw [if_neg n1, if_neg n1, if_pos hk, e1, bind_some', bind_some', h3, h4, bind_some', bind_some', e2]
     cases hq : (fa (x.ty hs).kids).beq b with
     | false => exact ⟨rfl, rfl⟩
     | true => exact ⟨rfl, rfl⟩
    have n1 : ((x.ty hs).kind != 2) = true := by simp [hk]
    rw [if_pos n1, if_pos n1, if_neg hk]; exact ⟨rfl, rfl⟩

end Go.Am.Ytpkeophkdemcpaa
