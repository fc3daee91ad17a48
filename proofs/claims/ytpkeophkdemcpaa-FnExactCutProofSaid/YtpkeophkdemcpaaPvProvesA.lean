/- Plain laws: what a proof proves: the program's way and the reference's. -/
import Derived.Test.YtpkeophkdemcpaaSmForm
import Derived.Test.YtpkeophkdemcpaaPvProof
import Derived.Test.YtpkeophkdemcpaaPuProk
import Derived.Test.YtpkeophkdemcpaaPuPsz
import Derived.Test.YtpkeophkdemcpaaMxProves
namespace Go.Am
open Go

def pwants (k : Int) (a b : F) : List F := if k = 2 then [a, b] else if k = 3 then [F.mk 2 0 [a, b]] else if k = 4 then [F.mk 2 0 [a, b]] else if k = 5 then [b] else if k = 6 then [F.mk 3 0 [a, b], a] else [b]
def pout (k : Int) (a b : F) : F := if k = 2 then F.mk 2 0 [a, b] else if k = 3 then a else if k = 4 then b else if k = 5 then F.mk 3 0 [a, b] else if k = 6 then b else a
def Pf.concl : Pf → List F → F
 | .mk k n fs _, hs => if k = 1 then (hs[hs.length - 1 - n.toNat]?).getD F.zz else pout k (fa fs) (fb fs)
mutual
def Pf.pv : Pf → List F → Int → Rz F
 | .mk k n fs ks, hs, at_ => if k = 1 then (if n ≥ (hs.length : Int) then .stop 7 at_ else .ok ((hs[hs.length - 1 - n.toNat]?).getD F.zz))
  else pvs ks (if k = 5 then hs ++ [fa fs] else hs) (pwants k (fa fs) (fb fs)) (pout k (fa fs) (fb fs)) (at_ + 1)
def pvs : List Pf → List F → List F → F → Int → Rz F
 | [], _, _, o, _ => .ok o
 | _ :: _, _, [], _, at_ => .stop 19 at_
 | t :: r, hs, w :: ws, o, at_ => match t.pv hs at_ with
  | .stop c p => .stop c p
  | .ok f => if f.beq w = true then pvs r hs ws o (at_ + t.psz) else .stop 19 at_
end
theorem pvs_ok : ∀ {ks : List Pf} {hs ws : List F} {o : F} {at_ : Int} {f : F}, pvs ks hs ws o at_ = .ok f → f = o
 | [], hs, ws, o, at_, f, h => by simp only [pvs] at h; cases h; rfl
 | t :: r, hs, [], o, at_, f, h => by simp only [pvs] at h; cases h
 | t :: r, hs, w :: ws, o, at_, f, h => by
  simp only [pvs] at h
  split at h
  ·cases h
  split at h
  ·exact pvs_ok h
  cases h
theorem pv_ok {t : Pf} {hs : List F} {at_ : Int} {f : F} (h : t.pv hs at_ = .ok f) : f = t.concl hs := by
 obtain ⟨k, n, fs, ks⟩ := t
 simp only [Pf.pv, Pf.concl] at h ⊢
 by_cases h1 : k = 1
 ·rw [if_pos h1] at h ⊢
  split at h
  ·cases h
  cases h; rfl
 rw [if_neg h1] at h ⊢
 exact pvs_ok h
theorem pvs_stop_of : ∀ (ks : List Pf), (∀ t ∈ ks, ∀ hs at_ c p, t.pv hs at_ = .stop c p → c ≠ 0) → ∀ {hs ws : List F} {o : F} {at_ c p : Int}, pvs ks hs ws o at_ = .stop c p → c ≠ 0
 | [], _, hs, ws, o, at_, c, p, h => by simp only [pvs] at h; cases h
 | t :: r, _, hs, [], o, at_, c, p, h => by simp only [pvs] at h; cases h; decide
 | t :: r, H, hs, w :: ws, o, at_, c, p, h => by
  simp only [pvs] at h
  split at h
  ·rename_i hq; cases h; exact H t (List.mem_cons_self ..) _ _ _ _ hq
  split at h
  ·exact pvs_stop_of r (fun t ht => H t (List.mem_cons_of_mem _ ht)) h
  cases h; decide
theorem pv_stop (t : Pf) : ∀ hs at_ c p, t.pv hs at_ = .stop c p → c ≠ 0 := by
 induction t using Pf.ind with
 | _ k n fs ks ih =>
  intro hs at_ c p h
  simp only [Pf.pv] at h
  split at h
  ·split at h
   ·cases h; decide
   cases h
  exact pvs_stop_of ks ih h

theorem pvs_e_stop {t : Pf} {r : List Pf} {hs ws : List F} {w o : F} {at_ c p : Int} (h : t.pv hs at_ = .stop c p) : pvs (t :: r) hs (w :: ws) o at_ = .stop c p := by simp only [pvs]; rw [h]
theorem pvs_e_ok {t : Pf} {r : List Pf} {hs ws : List F} {w o f : F} {at_ : Int} (h : t.pv hs at_ = .ok f) : pvs (t :: r) hs (w :: ws) o at_ = if f.beq w = true then pvs r hs ws o (at_ + t.psz) else .stop 19 at_ := by simp only [pvs]; rw [h]
theorem pout_sm (k : Int) {a b : F} (ha : a.sm) (hb : b.sm) : (pout k a b).sm := by
 unfold pout
 split
 ·exact f2_sm ha hb
 split
 ·exact ha
 split
 ·exact hb
 split
 ·exact f2_sm ha hb
 split
 ·exact hb
 exact ha
theorem concl_sm {t : Pf} {hs : List F} (hsm : t.sm) (hh : ∀ f ∈ hs, f.sm) : (t.concl hs).sm := by
 obtain ⟨k, n, fs, ks⟩ := t
 obtain ⟨⟨_, hfs⟩, _⟩ := psm_kids hsm
 simp only [Pf.concl]
 split
 ·cases e : hs[hs.length - 1 - n.toNat]? with
  | none => exact fzz_sm
  | some x => exact hh x (List.mem_of_getElem? e)
 exact pout_sm k (fa_sm hfs) (fb_sm hfs)

end Go.Am
namespace Go.Am.Ytpkeophkdemcpaa
open Go Go.Am


theorem isizeC_loop (rec : Pf → Option Int) (x : Pf) (hl : x.kids.length ≤ 1048576) (H : ∀ y ∈ x.kids, rec y = some y.psz) :
  ∀ (r a : List Pf) (m : Nat) (i : Int), x.kids = a ++ r → r.length < m → 0 ≤ i → i + ppszs r ≤ 1000000000 → i_Proof_size__c_L1 rec x m i a.length = some (i + ppszs r)
 | [], a, m, i, e, hm, h0, hb => by
  obtain ⟨m, rfl⟩ : ∃ k, m = k + 1 := ⟨m - 1, by omega⟩
  rw [i_Proof_size__c_L1, e, if_neg (lt_end a)]; simp [ppszs]
 | y :: r, a, m, i, e, hm, h0, hb => by
  obtain ⟨m, rfl⟩ : ∃ k, m = k + 1 := ⟨m - 1, by omega⟩
  have hy : y ∈ x.kids := by rw [e]; simp
  have e1 : (a.length : Int) < (x.kids.length : Int) := by rw [e]; exact lt_mid a y r
  have e2 : idx x.kids (a.length : Int) = some y := by rw [e]; exact idx_mid a y r
  have h1 := ppsz_le y
  have h2 := ppszs_le r
  simp only [ppszs] at hb
  rw [i_Proof_size__c_L1, if_pos e1, e2, bind_some', H y hy, bind_some', w64_eq (x := i + y.psz) (by omega) (by omega)]
  rw [show IntKind.i64.wrap ((a.length : Int) + 1) = ((a ++ [y]).length : Int) from w64_mid a y r (by rw [← e]; omega)]
  rw [isizeC_loop rec x hl H r (a ++ [y]) m (i + y.psz) (by simp [e]) (by simpa using hm) (by omega) (by omega)]
  simp only [ppszs]
  congr 1
  omega

theorem isizeC_ev (t : Pf) (hsm : t.sm) (hb : t.size ≤ 1000000) : Ev fun n => i_Proof_size__c n t = some t.psz := by
 induction t using Pf.ind with
 | _ k n fs ks ih =>
  obtain ⟨_, hl, hks⟩ := psm_kids hsm
  have hle := ppszs_le ks
  have hz : ∀ t ∈ ks, t.size ≤ 1000000 := fun t ht => by
   have := psizes_mem ht
   simp only [Pf.size] at hb
   omega
  simp only [Pf.size] at hb
  refine (Ev.all fun t ht => ih t ht (hks t ht) (hz t ht)).up (ks.length + 1) fun fu hn H => ?_
  rw [i_Proof_size__c]
  have := isizeC_loop _ (Pf.mk k n fs ks) hl H ks [] fu 1 rfl (by omega) (by omega) (by omega)
  simp only [Pf.psz]
  exact this

theorem ssize_loop (rec : Pf → Option Int) (x : Pf) (hl : x.kids.length ≤ 1048576) (H : ∀ y ∈ x.kids, rec y = some y.psz) :
  ∀ (r a : List Pf) (m : Nat) (i : Int), x.kids = a ++ r → r.length < m → 0 ≤ i → i + ppszs r ≤ 1000000000 → s_l08Size_L1 rec x m i a.length = some (i + ppszs r)
 | [], a, m, i, e, hm, h0, hb => by
  obtain ⟨m, rfl⟩ : ∃ k, m = k + 1 := ⟨m - 1, by omega⟩
  rw [s_l08Size_L1, e, if_neg (lt_end a)]; simp [ppszs]
 | y :: r, a, m, i, e, hm, h0, hb => by
  obtain ⟨m, rfl⟩ : ∃ k, m = k + 1 := ⟨m - 1, by omega⟩
  have hy : y ∈ x.kids := by rw [e]; simp
  have e1 : (a.length : Int) < (x.kids.length : Int) := by rw [e]; exact lt_mid a y r
  have e2 : idx x.kids (a.length : Int) = some y := by rw [e]; exact idx_mid a y r
  have h1 := ppsz_le y
  have h2 := ppszs_le r
  simp only [ppszs] at hb
  rw [s_l08Size_L1, if_pos e1, e2, bind_some', H y hy, bind_some', w64_eq (x := i + y.psz) (by omega) (by omega)]
  rw [show IntKind.i64.wrap ((a.length : Int) + 1) = ((a ++ [y]).length : Int) from w64_mid a y r (by rw [← e]; omega)]
  rw [ssize_loop rec x hl H r (a ++ [y]) m (i + y.psz) (by simp [e]) (by simpa using hm) (by omega) (by omega)]
  simp only [ppszs]
  congr 1
  omega

theorem ssize_ev (t : Pf) (hsm : t.sm) (hb : t.size ≤ 1000000) : Ev fun n => s_l08Size n t = some t.psz := by
 induction t using Pf.ind with
 | _ k n fs ks ih =>
  obtain ⟨_, hl, hks⟩ := psm_kids hsm
  have hle := ppszs_le ks
  have hz : ∀ t ∈ ks, t.size ≤ 1000000 := fun t ht => by
   have := psizes_mem ht
   simp only [Pf.size] at hb
   omega
  simp only [Pf.size] at hb
  refine (Ev.all fun t ht => ih t ht (hks t ht) (hz t ht)).up (ks.length + 1) fun fu hn H => ?_
  rw [s_l08Size]
  have := ssize_loop _ (Pf.mk k n fs ks) hl H ks [] fu 1 rfl (by omega) (by omega) (by omega)
  simp only [Pf.psz]
  exact this

theorem i_proves_L1_lp (rec : List F → Pf → Int → Option (Rz F)) (n : Nat) (x : Pf) (hl : x.kids.length ≤ 1048576) (hs : List F) 
  (H : ∀ y ∈ x.kids, ∀ at_, 0 ≤ at_ → at_ + y.psz ≤ 1000000 → rec hs y at_ = some (y.pv hs at_))
  (HS : ∀ y ∈ x.kids, ∀ s, i_sameForm n (y.concl hs) s = some ((y.concl hs).beq s)) (HZ : ∀ y ∈ x.kids, i_Proof_size__c n y = some y.psz) (o : F) (ho : i_ruleOf_c5 x.forms = some o) :
  ∀ (r a : List Pf) (rw_ aw : List F) (m : Nat) (at_ : Int), x.kids = a ++ r → x.forms = aw ++ rw_ → a.length = aw.length → r.length = rw_.length → r.length < m → 0 ≤ at_ → at_ + ppszs r ≤ 1000000 →
   i_proves_L1 rec n x hs m at_ a.length = some (pvs r hs rw_ o at_)
 | [], a, rw_, aw, m, at_, e, ew, ea, er, hm, h0, hb => by
  obtain ⟨m, rfl⟩ : ∃ k, m = k + 1 := ⟨m - 1, by omega⟩
  rw [i_proves_L1, e, if_neg (lt_end a), ho, bind_some']; simp only [pvs]
 | y :: r, a, rw_, aw, m, at_, e, ew, ea, er, hm, h0, hb => by
  obtain ⟨m, rfl⟩ : ∃ k, m = k + 1 := ⟨m - 1, by omega⟩
  obtain ⟨w, ws, rfl⟩ : ∃ z s, rw_ = z :: s := by
   cases rw_ with
   | nil => simp at er
   | cons z s => exact ⟨z, s, rfl⟩
  have hy : y ∈ x.kids := by rw [e]; simp
  have e1 : (a.length : Int) < (x.kids.length : Int) := by rw [e]; exact lt_mid a y r
  have e2 : idx x.kids (a.length : Int) = some y := by rw [e]; exact idx_mid a y r
  have e3 : idx (x.forms) (a.length : Int) = some w := by rw [ew, ea]; exact idx_mid aw w ws
  have h1 := ppsz_le y
  have h2 := ppszs_le r
  simp only [ppszs] at hb
  rw [i_proves_L1, if_pos e1, e2, bind_some', e3, bind_some', H y hy at_ h0 (by omega), zb_some]
  cases hz : y.pv hs at_ with
  | stop c p => rw [pvs_e_stop hz]; rfl
  | ok f =>
   obtain rfl := pv_ok hz
   rw [pvs_e_ok hz]
   show (i_sameForm n (y.concl hs) w).bind _ = _
   rw [HS y hy, bind_some']
   cases hq : (y.concl hs).beq w with
   | false => rw [if_pos (by decide), if_neg (by decide)] <;> rfl
   | true =>
    rw [if_pos rfl, if_neg (by decide), HZ y hy, bind_some', w64_eq (x := at_ + y.psz) (by omega) (by omega)]
    rw [show IntKind.i64.wrap ((a.length : Int) + 1) = ((a ++ [y]).length : Int) from w64_mid a y r (by rw [← e]; omega)]
    exact i_proves_L1_lp rec n x hl hs  H HS HZ o ho r (a ++ [y]) ws (aw ++ [w]) m (at_ + y.psz) (by simp [e]) (by simp [ew]) (by simp [ea]) (by simpa using er) (by simpa using hm) (by omega) (by omega)

theorem i_proves_L2_lp (rec : List F → Pf → Int → Option (Rz F)) (n : Nat) (x : Pf) (hl : x.kids.length ≤ 1048576) (hs : List F) (ws0 : List F)
  (H : ∀ y ∈ x.kids, ∀ at_, 0 ≤ at_ → at_ + y.psz ≤ 1000000 → rec hs y at_ = some (y.pv hs at_))
  (HS : ∀ y ∈ x.kids, ∀ s, i_sameForm n (y.concl hs) s = some ((y.concl hs).beq s)) (HZ : ∀ y ∈ x.kids, i_Proof_size__c n y = some y.psz) (o : F) (ho : i_ruleOf_c2 x.forms = some o) :
  ∀ (r a : List Pf) (rw_ aw : List F) (m : Nat) (at_ : Int), x.kids = a ++ r → ws0 = aw ++ rw_ → a.length = aw.length → r.length = rw_.length → r.length < m → 0 ≤ at_ → at_ + ppszs r ≤ 1000000 →
   i_proves_L2 rec n x ws0 hs m at_ a.length = some (pvs r hs rw_ o at_)
 | [], a, rw_, aw, m, at_, e, ew, ea, er, hm, h0, hb => by
  obtain ⟨m, rfl⟩ : ∃ k, m = k + 1 := ⟨m - 1, by omega⟩
  rw [i_proves_L2, e, if_neg (lt_end a), ho, bind_some']; simp only [pvs]
 | y :: r, a, rw_, aw, m, at_, e, ew, ea, er, hm, h0, hb => by
  obtain ⟨m, rfl⟩ : ∃ k, m = k + 1 := ⟨m - 1, by omega⟩
  obtain ⟨w, ws, rfl⟩ : ∃ z s, rw_ = z :: s := by
   cases rw_ with
   | nil => simp at er
   | cons z s => exact ⟨z, s, rfl⟩
  have hy : y ∈ x.kids := by rw [e]; simp
  have e1 : (a.length : Int) < (x.kids.length : Int) := by rw [e]; exact lt_mid a y r
  have e2 : idx x.kids (a.length : Int) = some y := by rw [e]; exact idx_mid a y r
  have e3 : idx (ws0) (a.length : Int) = some w := by rw [ew, ea]; exact idx_mid aw w ws
  have h1 := ppsz_le y
  have h2 := ppszs_le r
  simp only [ppszs] at hb
  rw [i_proves_L2, if_pos e1, e2, bind_some', e3, bind_some', H y hy at_ h0 (by omega), zb_some]
  cases hz : y.pv hs at_ with
  | stop c p => rw [pvs_e_stop hz]; rfl
  | ok f =>
   obtain rfl := pv_ok hz
   rw [pvs_e_ok hz]
   show (i_sameForm n (y.concl hs) w).bind _ = _
   rw [HS y hy, bind_some']
   cases hq : (y.concl hs).beq w with
   | false => rw [if_pos (by decide), if_neg (by decide)] <;> rfl
   | true =>
    rw [if_pos rfl, if_neg (by decide), HZ y hy, bind_some', w64_eq (x := at_ + y.psz) (by omega) (by omega)]
    rw [show IntKind.i64.wrap ((a.length : Int) + 1) = ((a ++ [y]).length : Int) from w64_mid a y r (by rw [← e]; omega)]
    exact i_proves_L2_lp rec n x hl hs ws0 H HS HZ o ho r (a ++ [y]) ws (aw ++ [w]) m (at_ + y.psz) (by simp [e]) (by simp [ew]) (by simp [ea]) (by simpa using er) (by simpa using hm) (by omega) (by omega)

theorem i_proves_L3_lp (rec : List F → Pf → Int → Option (Rz F)) (n : Nat) (x : Pf) (hl : x.kids.length ≤ 1048576) (hs : List F) (ws0 : List F)
  (H : ∀ y ∈ x.kids, ∀ at_, 0 ≤ at_ → at_ + y.psz ≤ 1000000 → rec hs y at_ = some (y.pv hs at_))
  (HS : ∀ y ∈ x.kids, ∀ s, i_sameForm n (y.concl hs) s = some ((y.concl hs).beq s)) (HZ : ∀ y ∈ x.kids, i_Proof_size__c n y = some y.psz) (o : F) (ho : i_ruleOf_c3 x.forms = some o) :
  ∀ (r a : List Pf) (rw_ aw : List F) (m : Nat) (at_ : Int), x.kids = a ++ r → ws0 = aw ++ rw_ → a.length = aw.length → r.length = rw_.length → r.length < m → 0 ≤ at_ → at_ + ppszs r ≤ 1000000 →
   i_proves_L3 rec n x ws0 hs m at_ a.length = some (pvs r hs rw_ o at_)
 | [], a, rw_, aw, m, at_, e, ew, ea, er, hm, h0, hb => by
  obtain ⟨m, rfl⟩ : ∃ k, m = k + 1 := ⟨m - 1, by omega⟩
  rw [i_proves_L3, e, if_neg (lt_end a), ho, bind_some']; simp only [pvs]
 | y :: r, a, rw_, aw, m, at_, e, ew, ea, er, hm, h0, hb => by
  obtain ⟨m, rfl⟩ : ∃ k, m = k + 1 := ⟨m - 1, by omega⟩
  obtain ⟨w, ws, rfl⟩ : ∃ z s, rw_ = z :: s := by
   cases rw_ with
   | nil => simp at er
   | cons z s => exact ⟨z, s, rfl⟩
  have hy : y ∈ x.kids := by rw [e]; simp
  have e1 : (a.length : Int) < (x.kids.length : Int) := by rw [e]; exact lt_mid a y r
  have e2 : idx x.kids (a.length : Int) = some y := by rw [e]; exact idx_mid a y r
  have e3 : idx (ws0) (a.length : Int) = some w := by rw [ew, ea]; exact idx_mid aw w ws
  have h1 := ppsz_le y
  have h2 := ppszs_le r
  simp only [ppszs] at hb
  rw [i_proves_L3, if_pos e1, e2, bind_some', e3, bind_some', H y hy at_ h0 (by omega), zb_some]
  cases hz : y.pv hs at_ with
  | stop c p => rw [pvs_e_stop hz]; rfl
  | ok f =>
   obtain rfl := pv_ok hz
   rw [pvs_e_ok hz]
   show (i_sameForm n (y.concl hs) w).bind _ = _
   rw [HS y hy, bind_some']
   cases hq : (y.concl hs).beq w with
   | false => rw [if_pos (by decide), if_neg (by decide)] <;> rfl
   | true =>
    rw [if_pos rfl, if_neg (by decide), HZ y hy, bind_some', w64_eq (x := at_ + y.psz) (by omega) (by omega)]
    rw [show IntKind.i64.wrap ((a.length : Int) + 1) = ((a ++ [y]).length : Int) from w64_mid a y r (by rw [← e]; omega)]
    exact i_proves_L3_lp rec n x hl hs ws0 H HS HZ o ho r (a ++ [y]) ws (aw ++ [w]) m (at_ + y.psz) (by simp [e]) (by simp [ew]) (by simp [ea]) (by simpa using er) (by simpa using hm) (by omega) (by omega)

theorem i_proves_L4_lp (rec : List F → Pf → Int → Option (Rz F)) (n : Nat) (x : Pf) (hl : x.kids.length ≤ 1048576) (hs : List F) (ws0 : List F)
  (H : ∀ y ∈ x.kids, ∀ at_, 0 ≤ at_ → at_ + y.psz ≤ 1000000 → rec hs y at_ = some (y.pv hs at_))
  (HS : ∀ y ∈ x.kids, ∀ s, i_sameForm n (y.concl hs) s = some ((y.concl hs).beq s)) (HZ : ∀ y ∈ x.kids, i_Proof_size__c n y = some y.psz) (o : F) (ho : i_ruleOf_c7 x.forms = some o) :
  ∀ (r a : List Pf) (rw_ aw : List F) (m : Nat) (at_ : Int), x.kids = a ++ r → ws0 = aw ++ rw_ → a.length = aw.length → r.length = rw_.length → r.length < m → 0 ≤ at_ → at_ + ppszs r ≤ 1000000 →
   i_proves_L4 rec n x ws0 hs m at_ a.length = some (pvs r hs rw_ o at_)
 | [], a, rw_, aw, m, at_, e, ew, ea, er, hm, h0, hb => by
  obtain ⟨m, rfl⟩ : ∃ k, m = k + 1 := ⟨m - 1, by omega⟩
  rw [i_proves_L4, e, if_neg (lt_end a), ho, bind_some']; simp only [pvs]
 | y :: r, a, rw_, aw, m, at_, e, ew, ea, er, hm, h0, hb => by
  obtain ⟨m, rfl⟩ : ∃ k, m = k + 1 := ⟨m - 1, by omega⟩
  obtain ⟨w, ws, rfl⟩ : ∃ z s, rw_ = z :: s := by
   cases rw_ with
   | nil => simp at er
   | cons z s => exact ⟨z, s, rfl⟩
  have hy : y ∈ x.kids := by rw [e]; simp
  have e1 : (a.length : Int) < (x.kids.length : Int) := by rw [e]; exact lt_mid a y r
  have e2 : idx x.kids (a.length : Int) = some y := by rw [e]; exact idx_mid a y r
  have e3 : idx (ws0) (a.length : Int) = some w := by rw [ew, ea]; exact idx_mid aw w ws
  have h1 := ppsz_le y
  have h2 := ppszs_le r
  simp only [ppszs] at hb
  rw [i_proves_L4, if_pos e1, e2, bind_some', e3, bind_some', H y hy at_ h0 (by omega), zb_some]
  cases hz : y.pv hs at_ with
  | stop c p => rw [pvs_e_stop hz]; rfl
  | ok f =>
   obtain rfl := pv_ok hz
   rw [pvs_e_ok hz]
   show (i_sameForm n (y.concl hs) w).bind _ = _
   rw [HS y hy, bind_some']
   cases hq : (y.concl hs).beq w with
   | false => rw [if_pos (by decide), if_neg (by decide)] <;> rfl
   | true =>
    rw [if_pos rfl, if_neg (by decide), HZ y hy, bind_some', w64_eq (x := at_ + y.psz) (by omega) (by omega)]
    rw [show IntKind.i64.wrap ((a.length : Int) + 1) = ((a ++ [y]).length : Int) from w64_mid a y r (by rw [← e]; omega)]
    exact i_proves_L4_lp rec n x hl hs ws0 H HS HZ o ho r (a ++ [y]) ws (aw ++ [w]) m (at_ + y.psz) (by simp [e]) (by simp [ew]) (by simp [ea]) (by simpa using er) (by simpa using hm) (by omega) (by omega)

theorem i_proves_L6_lp (rec : List F → Pf → Int → Option (Rz F)) (n : Nat) (x : Pf) (hl : x.kids.length ≤ 1048576) (hs : List F) 
  (H : ∀ y ∈ x.kids, ∀ at_, 0 ≤ at_ → at_ + y.psz ≤ 1000000 → rec hs y at_ = some (y.pv hs at_))
  (HS : ∀ y ∈ x.kids, ∀ s, i_sameForm n (y.concl hs) s = some ((y.concl hs).beq s)) (HZ : ∀ y ∈ x.kids, i_Proof_size__c n y = some y.psz) (o : F) (ho : i_ruleOf_c2 x.forms = some o) :
  ∀ (r a : List Pf) (rw_ aw : List F) (m : Nat) (at_ : Int), x.kids = a ++ r → [(F.mk 4 0 [])] = aw ++ rw_ → a.length = aw.length → r.length = rw_.length → r.length < m → 0 ≤ at_ → at_ + ppszs r ≤ 1000000 →
   i_proves_L6 rec n x hs m at_ a.length = some (pvs r hs rw_ o at_)
 | [], a, rw_, aw, m, at_, e, ew, ea, er, hm, h0, hb => by
  obtain ⟨m, rfl⟩ : ∃ k, m = k + 1 := ⟨m - 1, by omega⟩
  rw [i_proves_L6, e, if_neg (lt_end a), ho, bind_some']; simp only [pvs]
 | y :: r, a, rw_, aw, m, at_, e, ew, ea, er, hm, h0, hb => by
  obtain ⟨m, rfl⟩ : ∃ k, m = k + 1 := ⟨m - 1, by omega⟩
  obtain ⟨w, ws, rfl⟩ : ∃ z s, rw_ = z :: s := by
   cases rw_ with
   | nil => simp at er
   | cons z s => exact ⟨z, s, rfl⟩
  have hy : y ∈ x.kids := by rw [e]; simp
  have e1 : (a.length : Int) < (x.kids.length : Int) := by rw [e]; exact lt_mid a y r
  have e2 : idx x.kids (a.length : Int) = some y := by rw [e]; exact idx_mid a y r
  have e3 : idx ([(F.mk 4 0 [])]) (a.length : Int) = some w := by rw [ew, ea]; exact idx_mid aw w ws
  have h1 := ppsz_le y
  have h2 := ppszs_le r
  simp only [ppszs] at hb
  rw [i_proves_L6, if_pos e1, e2, bind_some', e3, bind_some', H y hy at_ h0 (by omega), zb_some]
  cases hz : y.pv hs at_ with
  | stop c p => rw [pvs_e_stop hz]; rfl
  | ok f =>
   obtain rfl := pv_ok hz
   rw [pvs_e_ok hz]
   show (i_sameForm n (y.concl hs) w).bind _ = _
   rw [HS y hy, bind_some']
   cases hq : (y.concl hs).beq w with
   | false => rw [if_pos (by decide), if_neg (by decide)] <;> rfl
   | true =>
    rw [if_pos rfl, if_neg (by decide), HZ y hy, bind_some', w64_eq (x := at_ + y.psz) (by omega) (by omega)]
    rw [show IntKind.i64.wrap ((a.length : Int) + 1) = ((a ++ [y]).length : Int) from w64_mid a y r (by rw [← e]; omega)]
    exact i_proves_L6_lp rec n x hl hs  H HS HZ o ho r (a ++ [y]) ws (aw ++ [w]) m (at_ + y.psz) (by simp [e]) (by simp [ew]) (by simp [ea]) (by simpa using er) (by simpa using hm) (by omega) (by omega)

theorem specProves_lp (rec : List F → Pf → Int → Option (F × Int × Int)) (n : Nat) (x : Pf) (hl : x.kids.length ≤ 1048576) (hs ws0 : List F) (ko no : Int) (lo : List F)
  (H : ∀ y ∈ x.kids, ∀ at_, 0 ≤ at_ → at_ + y.psz ≤ 1000000 → rec hs y at_ = some (y.pv hs at_).enc)
  (HS : ∀ y ∈ x.kids, ∀ s, s_l08Same n (y.concl hs) s = some ((y.concl hs).beq s)) (HZ : ∀ y ∈ x.kids, s_l08Size n y = some y.psz) :
  ∀ (r a : List Pf) (rw_ aw : List F) (m : Nat) (at_ : Int), x.kids = a ++ r → ws0 = aw ++ rw_ → a.length = aw.length → r.length = rw_.length → r.length < m → 0 ≤ at_ → at_ + ppszs r ≤ 1000000 →
   s_l08Proves_L1 rec n x hs ws0 ko no lo m at_ a.length = some (pvs r hs rw_ (F.mk ko no lo) at_).enc
 | [], a, rw_, aw, m, at_, e, ew, ea, er, hm, h0, hb => by
  obtain ⟨m, rfl⟩ : ∃ k, m = k + 1 := ⟨m - 1, by omega⟩
  rw [s_l08Proves_L1, e, if_neg (lt_end a)]; simp only [pvs]; rfl
 | y :: r, a, rw_, aw, m, at_, e, ew, ea, er, hm, h0, hb => by
  obtain ⟨m, rfl⟩ : ∃ k, m = k + 1 := ⟨m - 1, by omega⟩
  obtain ⟨w, ws, rfl⟩ : ∃ z s, rw_ = z :: s := by
   cases rw_ with
   | nil => simp at er
   | cons z s => exact ⟨z, s, rfl⟩
  have hy : y ∈ x.kids := by rw [e]; simp
  have e1 : (a.length : Int) < (x.kids.length : Int) := by rw [e]; exact lt_mid a y r
  have e2 : idx x.kids (a.length : Int) = some y := by rw [e]; exact idx_mid a y r
  have e3 : idx ws0 (a.length : Int) = some w := by rw [ew, ea]; exact idx_mid aw w ws
  have h1 := ppsz_le y
  have h2 := ppszs_le r
  simp only [ppszs] at hb
  rw [s_l08Proves_L1, if_pos e1, e2, bind_some', H y hy at_ h0 (by omega), bind_some']
  cases hz : y.pv hs at_ with
  | stop c p =>
   rw [pvs_e_stop hz]
   have hc := pv_stop y hs at_ c p hz
   have : ((Rz.stop c p : Rz F).enc.2.1 != 0) = true := by simp [Rz.enc, hc]
   rw [if_pos this]; rfl
  | ok f =>
   obtain rfl := pv_ok hz
   rw [pvs_e_ok hz, if_neg (by simp [Rz.enc]), e3, bind_some']
   show (s_l08Same n (y.concl hs) w).bind _ = _
   rw [HS y hy, bind_some']
   cases hq : (y.concl hs).beq w with
   | false => rw [if_pos (by decide), if_neg (by decide)] <;> rfl
   | true =>
    rw [if_pos rfl, if_neg (by decide), bind_some', HZ y hy, bind_some', w64_eq (x := at_ + y.psz) (by omega) (by omega)]
    rw [show IntKind.i64.wrap ((a.length : Int) + 1) = ((a ++ [y]).length : Int) from w64_mid a y r (by rw [← e]; omega)]
    exact specProves_lp rec n x hl hs ws0 ko no lo H HS HZ r (a ++ [y]) ws (aw ++ [w]) m (at_ + y.psz) (by simp [e]) (by simp [ew]) (by simp [ea]) (by simpa using er) (by simpa using hm) (by omega) (by omega)

theorem prok_rules {k n : Int} {fs : List F} {ks : List Pf} (h : (Pf.mk k n fs ks).prok = true) :
  (k = 1 ∧ 0 ≤ n ∧ n ≤ 100 ∧ fs = [] ∧ ks = []) ∨ ((∀ t ∈ ks, t.prok = true) ∧ (((k = 2 ∨ k = 6) ∧ ks.length = 2 ∧ ∃ a b, fs = [a, b]) ∨ ((k = 3 ∨ k = 4 ∨ k = 5) ∧ ks.length = 1 ∧ ∃ a b, fs = [a, b]) ∨ (k = 7 ∧ ks.length = 1 ∧ ∃ a, fs = [a]))) := by
 have h' := h
 rcases prok_parts h' with h1 | ⟨h2, h7, _, _, hP⟩
 ·exact .inl h1
 refine .inr ⟨hP, ?_⟩
 rw [prok_eq] at h
 simp only [Bool.and_eq_true, decide_eq_true_eq] at h
 obtain ⟨_, hf, hk, _⟩ := h
 have two : ∀ l : List F, l.length = 2 → ∃ a b, l = [a, b] := fun l hl => by
  match l, hl with
  | [a, b], _ => exact ⟨a, b, rfl⟩
 have one : ∀ l : List F, l.length = 1 → ∃ a, l = [a] := fun l hl => by
  match l, hl with
  | [a], _ => exact ⟨a, rfl⟩
 obtain rfl | rfl | rfl | rfl | rfl | rfl : k = 2 ∨ k = 3 ∨ k = 4 ∨ k = 5 ∨ k = 6 ∨ k = 7 := by omega
 all_goals simp [shape] at hf hk
 ·exact .inl ⟨.inl rfl, by omega, two _ (by omega)⟩
 ·exact .inr (.inl ⟨.inl rfl, by omega, two _ (by omega)⟩)
 ·exact .inr (.inl ⟨.inr (.inl rfl), by omega, two _ (by omega)⟩)
 ·exact .inr (.inl ⟨.inr (.inr rfl), by omega, two _ (by omega)⟩)
 ·exact .inl ⟨.inr rfl, by omega, two _ (by omega)⟩
 exact .inr (.inr ⟨rfl, by omega, one _ (by omega)⟩)

theorem hyp_idx {hs : List F} {n : Int} (h0 : 0 ≤ n) (hl : hs.length ≤ 1048576) (h : ¬ n ≥ (hs.length : Int)) :
  idx hs (IntKind.i64.wrap ((IntKind.i64.wrap ((hs.length : Int) - 1)) - n)) = some ((hs[hs.length - 1 - n.toNat]?).getD F.zz) := by
 rw [w64_eq (x := (hs.length : Int) - 1) (by omega) (by omega), w64_eq (by omega) (by omega)]
 have e : (hs.length : Int) - 1 - n = ((hs.length - 1 - n.toNat : Nat) : Int) := by omega
 rw [e, idx_nat, List.getElem?_eq_getElem (by omega)]
 rfl

def ProvesAt (t : Pf) (hs : List F) (n : Nat) : Prop := ∀ at_, 0 ≤ at_ → at_ + t.psz ≤ 1000000 → i_proves n hs t at_ = some (t.pv hs at_) ∧ s_l08Proves n hs t at_ = some (t.pv hs at_).enc

theorem proves_ev (t : Pf) : t.prok = true → t.sm → t.size ≤ 1000000 → ∀ hs : List F, (∀ f ∈ hs, f.sm) → hs.length + t.size ≤ 1000000 → Ev (ProvesAt t hs) := by
 induction t using Pf.ind with
 | _ k n fs ks ih =>
  intro hok hsm hsz hs hhs hlen
  obtain ⟨⟨hfl, hfs⟩, hl, hks⟩ := psm_kids hsm
  have hsz' := hsz
  simp only [Pf.size] at hsz' hlen
  rcases prok_rules hok with ⟨rfl, hn0, hn1, rfl, rfl⟩ | ⟨hP, hR⟩
  ·refine ⟨1, fun fu hfu at_ h0 hb => ?_⟩
   obtain ⟨fu, rfl⟩ : ∃ q, fu = q + 1 := ⟨fu - 1, by omega⟩
   have ei : i_proves (fu + 1) hs (Pf.mk 1 n [] []) at_ = if n ≥ (hs.length : Int) then some (.stop 7 at_) else (idx hs (IntKind.i64.wrap ((IntKind.i64.wrap ((hs.length : Int) - 1)) - n))).bind fun y => some (.ok y) := by rw [i_proves]; rfl
   have es : s_l08Proves (fu + 1) hs (Pf.mk 1 n [] []) at_ = if n ≥ (hs.length : Int) then some (F.mk 0 0 [], 7, at_) else (idx hs (IntKind.i64.wrap ((IntKind.i64.wrap ((hs.length : Int) - 1)) - n))).bind fun y => some (y, 0, 0) := by rw [s_l08Proves]; rfl
   have ep : (Pf.mk 1 n [] []).pv hs at_ = if n ≥ (hs.length : Int) then .stop 7 at_ else .ok ((hs[hs.length - 1 - n.toNat]?).getD F.zz) := by simp only [Pf.pv, if_true]
   rw [ei, es, ep]
   by_cases hh : n ≥ (hs.length : Int)
   ·rw [if_pos hh, if_pos hh, if_pos hh]; exact ⟨rfl, rfl⟩
   rw [if_neg hh, if_neg hh, if_neg hh, hyp_idx hn0 (by omega) hh]; exact ⟨rfl, rfl⟩
  have hk1 : k ≠ 1 := by rcases hR with ⟨h, _⟩ | ⟨h, _⟩ | ⟨h, _⟩ <;> omega
  have hz : ∀ t ∈ ks, t.size ≤ psizes ks := fun t ht => psizes_mem ht
  have hS := fa_sm hfs
  -- the hypotheses of the kids
  have hH : ∀ f ∈ (if k = 5 then hs ++ [fa fs] else hs), f.sm := by
   intro f hf
   split at hf
   ·rcases List.mem_append.1 hf with h | h
    ·exact hhs f h
    simp at h; subst h; exact hS
   exact hhs f hf
  have hHl : (if k = 5 then hs ++ [fa fs] else hs).length ≤ hs.length + 1 := by split <;> simp
  have E1 := Ev.all fun t ht => ih t ht (hP t ht) (hks t ht) (by have := hz t ht; omega) (if k = 5 then hs ++ [fa fs] else hs) hH (by have := hz t ht; omega)
  have E2 := Ev.all (l := ks) (p := fun t fu => ∀ s, i_sameForm fu (t.concl (if k = 5 then hs ++ [fa fs] else hs)) s = some ((t.concl (if k = 5 then hs ++ [fa fs] else hs)).beq s)) fun t ht => sameI_ev _ (concl_sm (hks t ht) hH)
  have E3 := Ev.all (l := ks) (p := fun t fu => ∀ s, s_l08Same fu (t.concl (if k = 5 then hs ++ [fa fs] else hs)) s = some ((t.concl (if k = 5 then hs ++ [fa fs] else hs)).beq s)) fun t ht => sameS_ev _ (concl_sm (hks t ht) hH)
  have E4 := Ev.all (l := ks) fun t ht => isizeC_ev t (hks t ht) (by have := hz t ht; omega)
  have E5 := Ev.all (l := ks) fun t ht => ssize_ev t (hks t ht) (by have := hz t ht; omega)
  have hle := ppszs_le ks
  refine (E1.and (E2.and (E3.and (E4.and E5)))).up (ks.length + 1) fun fu hfu h at_ h0 hb => ?_
  obtain ⟨h1, h2, h3, h4, h5⟩ := h
  have hb' : at_ + 1 + ppszs ks ≤ 1000000 := by simp only [Pf.psz] at hb; omega
  have hw1 : IntKind.i64.wrap (at_ + 1) = at_ + 1 := w64_eq (by omega) (by omega)
  have ep : (Pf.mk k n fs ks).pv hs at_ = pvs ks (if k = 5 then hs ++ [fa fs] else hs) (pwants k (fa fs) (fb fs)) (pout k (fa fs) (fb fs)) (at_ + 1) := by simp only [Pf.pv, if_neg hk1]
  rw [ep]
  clear ep hk1 E1 E2 E3 E4 E5 ih hH hHl
  rcases hR with ⟨rfl | rfl, hkl, a, b, rfl⟩ | ⟨rfl | rfl | rfl, hkl, a, b, rfl⟩ | ⟨rfl, hkl, a, rfl⟩
  ·obtain ⟨ka, na, la⟩ := a
   obtain ⟨kb, nb, lb⟩ := b
   have h1i := fun y hy at_ h0 hb => (h1 y hy at_ h0 hb).1
   have h1s := fun y hy at_ h0 hb => (h1 y hy at_ h0 hb).2
   have hli := i_proves_L1_lp (i_proves fu) fu (Pf.mk 2 n [(F.mk ka na la), (F.mk kb nb lb)] ks) hl hs  h1i h2 h4 (F.mk 2 0 [(F.mk ka na la), (F.mk kb nb lb)]) rfl ks [] [(F.mk ka na la), (F.mk kb nb lb)] [] fu (at_ + 1) rfl rfl rfl (by rw [hkl]; rfl) (by omega) (by omega) hb'
   have hls := specProves_lp (s_l08Proves fu) fu (Pf.mk 2 n [(F.mk ka na la), (F.mk kb nb lb)] ks) hl hs [(F.mk ka na la), (F.mk kb nb lb)] 2 0 [(F.mk ka na la), (F.mk kb nb lb)] h1s h3 h5 ks [] [(F.mk ka na la), (F.mk kb nb lb)] [] fu (at_ + 1) rfl rfl rfl (by rw [hkl]; rfl) (by omega) (by omega) hb'
   have ei : i_proves (fu + 1) hs (Pf.mk 2 n [(F.mk ka na la), (F.mk kb nb lb)] ks) at_ = i_proves_L1 (i_proves fu) fu (Pf.mk 2 n [(F.mk ka na la), (F.mk kb nb lb)] ks) hs fu (IntKind.i64.wrap (at_ + 1)) 0 := by rw [i_proves]; rfl
   have es : s_l08Proves (fu + 1) hs (Pf.mk 2 n [(F.mk ka na la), (F.mk kb nb lb)] ks) at_ = s_l08Proves_L1 (s_l08Proves fu) fu (Pf.mk 2 n [(F.mk ka na la), (F.mk kb nb lb)] ks) hs [(F.mk ka na la), (F.mk kb nb lb)] 2 0 [(F.mk ka na la), (F.mk kb nb lb)] fu (IntKind.i64.wrap (at_ + 1)) 0 := by rw [s_l08Proves]; rfl
   rw [ei, es, hw1]
   exact ⟨hli, hls⟩
  ·obtain ⟨ka, na, la⟩ := a
   obtain ⟨kb, nb, lb⟩ := b
   have h1i := fun y hy at_ h0 hb => (h1 y hy at_ h0 hb).1
   have h1s := fun y hy at_ h0 hb => (h1 y hy at_ h0 hb).2
   have hli := i_proves_L3_lp (i_proves fu) fu (Pf.mk 6 n [(F.mk ka na la), (F.mk kb nb lb)] ks) hl hs [(F.mk 3 0 [(F.mk ka na la), (F.mk kb nb lb)]), (F.mk ka na la)] h1i h2 h4 (F.mk kb nb lb) rfl ks [] [(F.mk 3 0 [(F.mk ka na la), (F.mk kb nb lb)]), (F.mk ka na la)] [] fu (at_ + 1) rfl rfl rfl (by rw [hkl]; rfl) (by omega) (by omega) hb'
   have hls := specProves_lp (s_l08Proves fu) fu (Pf.mk 6 n [(F.mk ka na la), (F.mk kb nb lb)] ks) hl hs [(F.mk 3 0 [(F.mk ka na la), (F.mk kb nb lb)]), (F.mk ka na la)] kb nb lb h1s h3 h5 ks [] [(F.mk 3 0 [(F.mk ka na la), (F.mk kb nb lb)]), (F.mk ka na la)] [] fu (at_ + 1) rfl rfl rfl (by rw [hkl]; rfl) (by omega) (by omega) hb'
   have ei : i_proves (fu + 1) hs (Pf.mk 6 n [(F.mk ka na la), (F.mk kb nb lb)] ks) at_ = i_proves_L3 (i_proves fu) fu (Pf.mk 6 n [(F.mk ka na la), (F.mk kb nb lb)] ks) [(F.mk 3 0 [(F.mk ka na la), (F.mk kb nb lb)]), (F.mk ka na la)] hs fu (IntKind.i64.wrap (at_ + 1)) 0 := by rw [i_proves]; rfl
   have es : s_l08Proves (fu + 1) hs (Pf.mk 6 n [(F.mk ka na la), (F.mk kb nb lb)] ks) at_ = s_l08Proves_L1 (s_l08Proves fu) fu (Pf.mk 6 n [(F.mk ka na la), (F.mk kb nb lb)] ks) hs [(F.mk 3 0 [(F.mk ka na la), (F.mk kb nb lb)]), (F.mk ka na la)] kb nb lb fu (IntKind.i64.wrap (at_ + 1)) 0 := by rw [s_l08Proves]; rfl
   rw [ei, es, hw1]
   exact ⟨hli, hls⟩
  ·obtain ⟨ka, na, la⟩ := a
   obtain ⟨kb, nb, lb⟩ := b
   have h1i := fun y hy at_ h0 hb => (h1 y hy at_ h0 hb).1
   have h1s := fun y hy at_ h0 hb => (h1 y hy at_ h0 hb).2
   have hli := i_proves_L2_lp (i_proves fu) fu (Pf.mk 3 n [(F.mk ka na la), (F.mk kb nb lb)] ks) hl hs [(F.mk 2 0 [(F.mk ka na la), (F.mk kb nb lb)])] h1i h2 h4 (F.mk ka na la) rfl ks [] [(F.mk 2 0 [(F.mk ka na la), (F.mk kb nb lb)])] [] fu (at_ + 1) rfl rfl rfl (by rw [hkl]; rfl) (by omega) (by omega) hb'
   have hls := specProves_lp (s_l08Proves fu) fu (Pf.mk 3 n [(F.mk ka na la), (F.mk kb nb lb)] ks) hl hs [(F.mk 2 0 [(F.mk ka na la), (F.mk kb nb lb)])] ka na la h1s h3 h5 ks [] [(F.mk 2 0 [(F.mk ka na la), (F.mk kb nb lb)])] [] fu (at_ + 1) rfl rfl rfl (by rw [hkl]; rfl) (by omega) (by omega) hb'
   have ei : i_proves (fu + 1) hs (Pf.mk 3 n [(F.mk ka na la), (F.mk kb nb lb)] ks) at_ = i_proves_L2 (i_proves fu) fu (Pf.mk 3 n [(F.mk ka na la), (F.mk kb nb lb)] ks) [(F.mk 2 0 [(F.mk ka na la), (F.mk kb nb lb)])] hs fu (IntKind.i64.wrap (at_ + 1)) 0 := by rw [i_proves]; rfl
   have es : s_l08Proves (fu + 1) hs (Pf.mk 3 n [(F.mk ka na la), (F.mk kb nb lb)] ks) at_ = s_l08Proves_L1 (s_l08Proves fu) fu (Pf.mk 3 n [(F.mk ka na la), (F.mk kb nb lb)] ks) hs [(F.mk 2 0 [(F.mk ka na la), (F.mk kb nb lb)])] ka na la fu (IntKind.i64.wrap (at_ + 1)) 0 := by rw [s_l08Proves]; rfl
   rw [ei, es, hw1]
   exact ⟨hli, hls⟩
  ·obtain ⟨ka, na, la⟩ := a
   obtain ⟨kb, nb, lb⟩ := b
   have h1i := fun y hy at_ h0 hb => (h1 y hy at_ h0 hb).1
   have h1s := fun y hy at_ h0 hb => (h1 y hy at_ h0 hb).2
   have hli := i_proves_L3_lp (i_proves fu) fu (Pf.mk 4 n [(F.mk ka na la), (F.mk kb nb lb)] ks) hl hs [(F.mk 2 0 [(F.mk ka na la), (F.mk kb nb lb)])] h1i h2 h4 (F.mk kb nb lb) rfl ks [] [(F.mk 2 0 [(F.mk ka na la), (F.mk kb nb lb)])] [] fu (at_ + 1) rfl rfl rfl (by rw [hkl]; rfl) (by omega) (by omega) hb'
   have hls := specProves_lp (s_l08Proves fu) fu (Pf.mk 4 n [(F.mk ka na la), (F.mk kb nb lb)] ks) hl hs [(F.mk 2 0 [(F.mk ka na la), (F.mk kb nb lb)])] kb nb lb h1s h3 h5 ks [] [(F.mk 2 0 [(F.mk ka na la), (F.mk kb nb lb)])] [] fu (at_ + 1) rfl rfl rfl (by rw [hkl]; rfl) (by omega) (by omega) hb'
   have ei : i_proves (fu + 1) hs (Pf.mk 4 n [(F.mk ka na la), (F.mk kb nb lb)] ks) at_ = i_proves_L3 (i_proves fu) fu (Pf.mk 4 n [(F.mk ka na la), (F.mk kb nb lb)] ks) [(F.mk 2 0 [(F.mk ka na la), (F.mk kb nb lb)])] hs fu (IntKind.i64.wrap (at_ + 1)) 0 := by rw [i_proves]; rfl
   have es : s_l08Proves (fu + 1) hs (Pf.mk 4 n [(F.mk ka na la), (F.mk kb nb lb)] ks) at_ = s_l08Proves_L1 (s_l08Proves fu) fu (Pf.mk 4 n [(F.mk ka na la), (F.mk kb nb lb)] ks) hs [(F.mk 2 0 [(F.mk ka na la), (F.mk kb nb lb)])] kb nb lb fu (IntKind.i64.wrap (at_ + 1)) 0 := by rw [s_l08Proves]; rfl
   rw [ei, es, hw1]
   exact ⟨hli, hls⟩
  ·obtain ⟨ka, na, la⟩ := a
   obtain ⟨kb, nb, lb⟩ := b
   have h1i := fun y hy at_ h0 hb => (h1 y hy at_ h0 hb).1
   have h1s := fun y hy at_ h0 hb => (h1 y hy at_ h0 hb).2
   have hli := i_proves_L4_lp (i_proves fu) fu (Pf.mk 5 n [(F.mk ka na la), (F.mk kb nb lb)] ks) hl (hs ++ [(F.mk ka na la)]) [(F.mk kb nb lb)] h1i h2 h4 (F.mk 3 0 [(F.mk ka na la), (F.mk kb nb lb)]) rfl ks [] [(F.mk kb nb lb)] [] fu (at_ + 1) rfl rfl rfl (by rw [hkl]; rfl) (by omega) (by omega) hb'
   have hls := specProves_lp (s_l08Proves fu) fu (Pf.mk 5 n [(F.mk ka na la), (F.mk kb nb lb)] ks) hl (hs ++ [(F.mk ka na la)]) [(F.mk kb nb lb)] 3 0 [(F.mk ka na la), (F.mk kb nb lb)] h1s h3 h5 ks [] [(F.mk kb nb lb)] [] fu (at_ + 1) rfl rfl rfl (by rw [hkl]; rfl) (by omega) (by omega) hb'
   have ei : i_proves (fu + 1) hs (Pf.mk 5 n [(F.mk ka na la), (F.mk kb nb lb)] ks) at_ = chk (hs.length + [(F.mk ka na la)].length ≤ 1099511627776) (i_proves_L4 (i_proves fu) fu (Pf.mk 5 n [(F.mk ka na la), (F.mk kb nb lb)] ks) [(F.mk kb nb lb)] (hs ++ [(F.mk ka na la)]) fu (IntKind.i64.wrap (at_ + 1)) 0) := by rw [i_proves]; rfl
   have es : s_l08Proves (fu + 1) hs (Pf.mk 5 n [(F.mk ka na la), (F.mk kb nb lb)] ks) at_ = chk (([] : List F).length + hs.length ≤ 1099511627776) (chk (hs.length + [(F.mk ka na la)].length ≤ 1099511627776) (s_l08Proves_L1 (s_l08Proves fu) fu (Pf.mk 5 n [(F.mk ka na la), (F.mk kb nb lb)] ks) (hs ++ [(F.mk ka na la)]) [(F.mk kb nb lb)] 3 0 [(F.mk ka na la), (F.mk kb nb lb)] fu (IntKind.i64.wrap (at_ + 1)) 0)) := by
    rw [s_l08Proves]
    show (s_l08More hs (F.mk ka na la)).bind _ = _
    unfold s_l08More
    rw [chk_of (p := ([] : List F).length + hs.length ≤ 1099511627776) (by simp; omega), chk_of (p := hs.length + [(F.mk ka na la)].length ≤ 1099511627776) (by simp; omega), chk_of (by simp; omega), chk_of (by simp; omega)]
    rfl
   rw [ei, es, chk_of (by simp; omega), chk_of (by simp; omega), chk_of (by simp; omega), hw1]
   exact ⟨hli, hls⟩
  obtain ⟨ka, na, la⟩ := a
  have h1i := fun y hy at_ h0 hb => (h1 y hy at_ h0 hb).1
  have h1s := fun y hy at_ h0 hb => (h1 y hy at_ h0 hb).2
  have hli := i_proves_L6_lp (i_proves fu) fu (Pf.mk 7 n [(F.mk ka na la)] ks) hl hs  h1i h2 h4 (F.mk ka na la) rfl ks [] [(F.mk 4 0 [])] [] fu (at_ + 1) rfl rfl rfl (by rw [hkl]; rfl) (by omega) (by omega) hb'
  have hls := specProves_lp (s_l08Proves fu) fu (Pf.mk 7 n [(F.mk ka na la)] ks) hl hs [(F.mk 4 0 [])] ka na la h1s h3 h5 ks [] [(F.mk 4 0 [])] [] fu (at_ + 1) rfl rfl rfl (by rw [hkl]; rfl) (by omega) (by omega) hb'
  have ei : i_proves (fu + 1) hs (Pf.mk 7 n [(F.mk ka na la)] ks) at_ = i_proves_L6 (i_proves fu) fu (Pf.mk 7 n [(F.mk ka na la)] ks) hs fu (IntKind.i64.wrap (at_ + 1)) 0 := by rw [i_proves]; rfl
  have es : s_l08Proves (fu + 1) hs (Pf.mk 7 n [(F.mk ka na la)] ks) at_ = s_l08Proves_L1 (s_l08Proves fu) fu (Pf.mk 7 n [(F.mk ka na la)] ks) hs [(F.mk 4 0 [])] ka na la fu (IntKind.i64.wrap (at_ + 1)) 0 := by rw [s_l08Proves]; rfl
  rw [ei, es, hw1]
  exact ⟨hli, hls⟩

end Go.Am.Ytpkeophkdemcpaa
