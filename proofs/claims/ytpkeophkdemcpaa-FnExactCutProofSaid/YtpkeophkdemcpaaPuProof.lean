/- Plain laws: what the printed functions on proofs or expressions come to: sizes, copies, sameness. -/
import Derived.Test.YtpkeophkdemcpaaPuB
import Derived.Test.YtpkeophkdemcpaaPuForm
import Derived.Test.YtpkeophkdemcpaaMlProof
namespace Go.Am.Ytpkeophkdemcpaa
open Go Go.Am

theorem szProof_loop (rec : Pf → Int → Option Int) (l : List Pf) (hl : l.length ≤ 9223372036854775807) (H : ∀ y ∈ l, ∀ left, 0 ≤ left → left ≤ 1048576 → rec y left = some (y.sz left)) :
  ∀ (r a : List Pf) (m : Nat) (left : Int), l = a ++ r → r.length < m → 0 ≤ left → left ≤ 1048576 → w_szProofS_L1 rec l m left a.length = some (pszs r left)
 | [], a, m, left, e, hm, h0, h1 => by
  obtain ⟨m, rfl⟩ : ∃ k, m = k + 1 := ⟨m - 1, by omega⟩
  subst e
  rw [w_szProofS_L1, if_neg (lt_end a)]; rfl
 | y :: r, a, m, left, e, hm, h0, h1 => by
  obtain ⟨m, rfl⟩ : ∃ k, m = k + 1 := ⟨m - 1, by omega⟩
  have hy : y ∈ l := by rw [e]; simp
  have hs := H y hy left h0 h1
  have hr := psz_range y left h0
  rw [w_szProofS_L1]
  have e1 : (a.length : Int) < (l.length : Int) := by rw [e]; exact lt_mid a y r
  rw [if_pos e1, show idx l (a.length : Int) = some y by rw [e]; exact idx_mid a y r, bind_some', hs, bind_some']
  simp only [pszs]
  split
  ·rfl
  rw [show IntKind.i64.wrap ((a.length : Int) + 1) = ((a ++ [y]).length : Int) from w64_mid a y r (by rw [← e]; exact hl)]
  exact szProof_loop rec l hl H r (a ++ [y]) m (y.sz left) (by simp [e]) (by simpa using hm) (by omega) (by omega)

theorem szProofS_ev (ks : List Pf) (hl : ks.length ≤ 9223372036854775807) (hk : ∀ t ∈ ks, Ev fun n => ∀ left, 0 ≤ left → left ≤ 1048576 → w_szProof n t left = some (t.sz left)) :
  Ev fun n => ∀ left, 0 ≤ left → left ≤ 1048576 → w_szProofS n ks left = some (pszS ks left) := by
 refine (Ev.all hk).up (ks.length + 1) fun n hn H left h0 h1 => ?_
 rw [w_szProofS, w64_eq (by omega) (by omega)]
 unfold pszS
 split
 ·rfl
 exact szProof_loop _ ks hl H ks [] n _ rfl (by omega) (by omega) (by omega)

theorem szProof_ev (t : Pf) (hok : t.ok) : Ev fun n => ∀ left, 0 ≤ left → left ≤ 1048576 → w_szProof n t left = some (t.sz left) := by
 induction t using Pf.ind with
 | _ k n fs ks ih =>
  obtain ⟨_, _, ⟨hfl, hfs⟩, hl, hks⟩ := pok_kids hok
  refine ((szFormS_ev fs hfl fun t ht => szForm_ev t (hfs t ht)).and (szProofS_ev ks hl fun t ht => ih t ht (hks t ht))).up 0 fun n _ H left h0 h1 => ?_
  have hr := fszS_range fs left h0
  rw [w_szProof, show (Pf.mk k _ fs ks).kids = ks from rfl, show (Pf.mk k _ fs ks).forms = fs from rfl, H.1 left h0 h1, bind_some', psz_eq]
  by_cases hn : fszS fs left < 0
  ·rw [if_pos hn, if_pos hn]
  have := pszS_range ks (fszS fs left) (by omega)
  rw [if_neg hn, if_neg hn, H.2 _ (by omega) (by omega), bind_some']
  split
  ·congr 1; omega
  rfl

theorem toProof_loop (rec : Pf → Option Pf) (l : List Pf) (hl : l.length ≤ 1048576) (H : ∀ y ∈ l, rec y = some y) :
  ∀ (r a : List Pf) (m : Nat), l = a ++ r → r.length < m → w_toProofS_L1 rec l m a.length a = some l
 | [], a, m, e, hm => by
  obtain ⟨m, rfl⟩ : ∃ k, m = k + 1 := ⟨m - 1, by omega⟩
  subst e
  rw [w_toProofS_L1, if_neg (lt_end a), chk_of (by simp)]; simp
 | y :: r, a, m, e, hm => by
  obtain ⟨m, rfl⟩ : ∃ k, m = k + 1 := ⟨m - 1, by omega⟩
  have hy : y ∈ l := by rw [e]; simp
  have hs := H y hy
  rw [w_toProofS_L1]
  have e1 : (a.length : Int) < (l.length : Int) := by rw [e]; exact lt_mid a y r
  rw [if_pos e1, show idx l (a.length : Int) = some y by rw [e]; exact idx_mid a y r, bind_some', hs, bind_some', chk_of ⟨rfl, by rw [e]; simp⟩]
  rw [show IntKind.i64.wrap ((a.length : Int) + 1) = ((a ++ [y]).length : Int) from w64_mid a y r (by rw [← e]; omega)]
  exact toProof_loop rec l hl H r (a ++ [y]) m (by simp [e]) (by simpa using hm)

theorem toProofS_ev (ks : List Pf) (hl : ks.length ≤ 1048576) (hk : ∀ t ∈ ks, Ev fun n => w_toProof n t = some t) : Ev fun n => w_toProofS n ks = some ks := by
 refine (Ev.all hk).up (ks.length + 1) fun n hn H => ?_
 rw [w_toProofS, chk_of (by omega)]
 exact toProof_loop _ ks hl H ks [] n rfl (by omega)

theorem toProof_ev (t : Pf) (hsm : t.sm) : Ev fun n => w_toProof n t = some t := by
 induction t using Pf.ind with
 | _ k n fs ks ih =>
  obtain ⟨⟨hfl, hfs⟩, hl, hks⟩ := psm_kids hsm
  refine ((toFormS_ev fs hfl fun t ht => toForm_ev t (hfs t ht)).and (toProofS_ev ks hl fun t ht => ih t ht (hks t ht))).up 0 fun n _ H => ?_
  rw [w_toProof, show (Pf.mk k _ fs ks).kids = ks from rfl, show (Pf.mk k _ fs ks).forms = fs from rfl, H.1, bind_some', H.2, bind_some']; rfl

theorem eqProof_loop (rec : Pf → Pf → Option Bool) (l : List Pf) (hl : l.length ≤ 1048576) (H : ∀ y ∈ l, rec y y = some true) :
  ∀ (r a : List Pf) (m : Nat), l = a ++ r → r.length < m → w_eqProofS_L1 rec l l m a.length = some true
 | [], a, m, e, hm => by
  obtain ⟨m, rfl⟩ : ∃ k, m = k + 1 := ⟨m - 1, by omega⟩
  subst e
  rw [w_eqProofS_L1, if_neg (lt_end a)]
 | y :: r, a, m, e, hm => by
  obtain ⟨m, rfl⟩ : ∃ k, m = k + 1 := ⟨m - 1, by omega⟩
  have hy : y ∈ l := by rw [e]; simp
  have hs := H y hy
  rw [w_eqProofS_L1]
  have e1 : (a.length : Int) < (l.length : Int) := by rw [e]; exact lt_mid a y r
  have e2 : idx l (a.length : Int) = some y := by rw [e]; exact idx_mid a y r
  rw [if_pos e1, e2, bind_some', bind_some', hs, bind_some']
  rw [show IntKind.i64.wrap ((a.length : Int) + 1) = ((a ++ [y]).length : Int) from w64_mid a y r (by rw [← e]; omega)]
  exact eqProof_loop rec l hl H r (a ++ [y]) m (by simp [e]) (by simpa using hm)

theorem eqProofS_ev (ks : List Pf) (hl : ks.length ≤ 1048576) (hk : ∀ t ∈ ks, Ev fun n => w_eqProof n t t = some true) : Ev fun n => w_eqProofS n ks ks = some true := by
 refine (Ev.all hk).up (ks.length + 1) fun n hn H => ?_
 rw [w_eqProofS, if_neg (by simp)]
 exact eqProof_loop _ ks hl H ks [] n rfl (by omega)

theorem eqProof_ev (t : Pf) (hsm : t.sm) : Ev fun n => w_eqProof n t t = some true := by
 induction t using Pf.ind with
 | _ k n fs ks ih =>
  obtain ⟨⟨hfl, hfs⟩, hl, hks⟩ := psm_kids hsm
  refine ((eqFormS_ev fs hfl fun t ht => eqForm_ev t (hfs t ht)).and (eqProofS_ev ks hl fun t ht => ih t ht (hks t ht))).up 0 fun n _ H => ?_
  rw [w_eqProof, if_neg (by simp), if_neg (by simp), show (Pf.mk k _ fs ks).kids = ks from rfl, show (Pf.mk k _ fs ks).forms = fs from rfl, H.1, bind_some', if_neg (by simp), H.2, bind_some', if_neg (by simp)]

end Go.Am.Ytpkeophkdemcpaa
