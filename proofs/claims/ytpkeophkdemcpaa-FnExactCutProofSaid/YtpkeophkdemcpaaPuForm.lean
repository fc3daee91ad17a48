/- Plain laws: what the printed functions on forms or types come to: sizes, copies, sameness. -/
import Derived.Test.YtpkeophkdemcpaaPuA
import Derived.Test.YtpkeophkdemcpaaMlForm
namespace Go.Am.Ytpkeophkdemcpaa
open Go Go.Am

theorem szForm_loop (rec : F → Int → Option Int) (l : List F) (hl : l.length ≤ 9223372036854775807) (H : ∀ y ∈ l, ∀ left, 0 ≤ left → left ≤ 1048576 → rec y left = some (y.sz left)) :
  ∀ (r a : List F) (m : Nat) (left : Int), l = a ++ r → r.length < m → 0 ≤ left → left ≤ 1048576 → w_szFormS_L1 rec l m left a.length = some (fszs r left)
 | [], a, m, left, e, hm, h0, h1 => by
  obtain ⟨m, rfl⟩ : ∃ k, m = k + 1 := ⟨m - 1, by omega⟩
  subst e
  rw [w_szFormS_L1, if_neg (lt_end a)]; rfl
 | y :: r, a, m, left, e, hm, h0, h1 => by
  obtain ⟨m, rfl⟩ : ∃ k, m = k + 1 := ⟨m - 1, by omega⟩
  have hy : y ∈ l := by rw [e]; simp
  have hs := H y hy left h0 h1
  have hr := fsz_range y left h0
  rw [w_szFormS_L1]
  have e1 : (a.length : Int) < (l.length : Int) := by rw [e]; exact lt_mid a y r
  rw [if_pos e1, show idx l (a.length : Int) = some y by rw [e]; exact idx_mid a y r, bind_some', hs, bind_some']
  simp only [fszs]
  split
  ·rfl
  rw [show IntKind.i64.wrap ((a.length : Int) + 1) = ((a ++ [y]).length : Int) from w64_mid a y r (by rw [← e]; exact hl)]
  exact szForm_loop rec l hl H r (a ++ [y]) m (y.sz left) (by simp [e]) (by simpa using hm) (by omega) (by omega)

theorem szFormS_ev (ks : List F) (hl : ks.length ≤ 9223372036854775807) (hk : ∀ t ∈ ks, Ev fun n => ∀ left, 0 ≤ left → left ≤ 1048576 → w_szForm n t left = some (t.sz left)) :
  Ev fun n => ∀ left, 0 ≤ left → left ≤ 1048576 → w_szFormS n ks left = some (fszS ks left) := by
 refine (Ev.all hk).up (ks.length + 1) fun n hn H left h0 h1 => ?_
 rw [w_szFormS, w64_eq (by omega) (by omega)]
 unfold fszS
 split
 ·rfl
 exact szForm_loop _ ks hl H ks [] n _ rfl (by omega) (by omega) (by omega)

theorem szForm_ev (t : F) (hok : t.ok) : Ev fun n => ∀ left, 0 ≤ left → left ≤ 1048576 → w_szForm n t left = some (t.sz left) := by
 induction t using F.ind with
 | _ k n ks ih =>
  obtain ⟨_, _, hl, hks⟩ := fok_kids hok
  refine (szFormS_ev ks hl fun t ht => ih t ht (hks t ht)).up 0 fun n _ H left h0 h1 => ?_
  rw [w_szForm, show (F.mk k _ ks).kids = ks from rfl, H left h0 h1, bind_some', fsz_eq]
  have := fszS_range ks left h0
  split
  ·congr 1; omega
  rfl

theorem toForm_loop (rec : F → Option F) (l : List F) (hl : l.length ≤ 1048576) (H : ∀ y ∈ l, rec y = some y) :
  ∀ (r a : List F) (m : Nat), l = a ++ r → r.length < m → w_toFormS_L1 rec l m a.length a = some l
 | [], a, m, e, hm => by
  obtain ⟨m, rfl⟩ : ∃ k, m = k + 1 := ⟨m - 1, by omega⟩
  subst e
  rw [w_toFormS_L1, if_neg (lt_end a), chk_of (by simp)]; simp
 | y :: r, a, m, e, hm => by
  obtain ⟨m, rfl⟩ : ∃ k, m = k + 1 := ⟨m - 1, by omega⟩
  have hy : y ∈ l := by rw [e]; simp
  have hs := H y hy
  rw [w_toFormS_L1]
  have e1 : (a.length : Int) < (l.length : Int) := by rw [e]; exact lt_mid a y r
  rw [if_pos e1, show idx l (a.length : Int) = some y by rw [e]; exact idx_mid a y r, bind_some', hs, bind_some', chk_of ⟨rfl, by rw [e]; simp⟩]
  rw [show IntKind.i64.wrap ((a.length : Int) + 1) = ((a ++ [y]).length : Int) from w64_mid a y r (by rw [← e]; omega)]
  exact toForm_loop rec l hl H r (a ++ [y]) m (by simp [e]) (by simpa using hm)

theorem toFormS_ev (ks : List F) (hl : ks.length ≤ 1048576) (hk : ∀ t ∈ ks, Ev fun n => w_toForm n t = some t) : Ev fun n => w_toFormS n ks = some ks := by
 refine (Ev.all hk).up (ks.length + 1) fun n hn H => ?_
 rw [w_toFormS, chk_of (by omega)]
 exact toForm_loop _ ks hl H ks [] n rfl (by omega)

theorem toForm_ev (t : F) (hsm : t.sm) : Ev fun n => w_toForm n t = some t := by
 induction t using F.ind with
 | _ k n ks ih =>
  obtain ⟨hl, hks⟩ := fsm_kids hsm
  refine (toFormS_ev ks hl fun t ht => ih t ht (hks t ht)).up 0 fun n _ H => ?_
  rw [w_toForm, show (F.mk k _ ks).kids = ks from rfl, H, bind_some']; rfl

theorem eqForm_loop (rec : F → F → Option Bool) (l : List F) (hl : l.length ≤ 1048576) (H : ∀ y ∈ l, rec y y = some true) :
  ∀ (r a : List F) (m : Nat), l = a ++ r → r.length < m → w_eqFormS_L1 rec l l m a.length = some true
 | [], a, m, e, hm => by
  obtain ⟨m, rfl⟩ : ∃ k, m = k + 1 := ⟨m - 1, by omega⟩
  subst e
  rw [w_eqFormS_L1, if_neg (lt_end a)]
 | y :: r, a, m, e, hm => by
  obtain ⟨m, rfl⟩ : ∃ k, m = k + 1 := ⟨m - 1, by omega⟩
  have hy : y ∈ l := by rw [e]; simp
  have hs := H y hy
  rw [w_eqFormS_L1]
  have e1 : (a.length : Int) < (l.length : Int) := by rw [e]; exact lt_mid a y r
  have e2 : idx l (a.length : Int) = some y := by rw [e]; exact idx_mid a y r
  rw [if_pos e1, e2, bind_some', bind_some', hs, bind_some']
  rw [show IntKind.i64.wrap ((a.length : Int) + 1) = ((a ++ [y]).length : Int) from w64_mid a y r (by rw [← e]; omega)]
  exact eqForm_loop rec l hl H r (a ++ [y]) m (by simp [e]) (by simpa using hm)

theorem eqFormS_ev (ks : List F) (hl : ks.length ≤ 1048576) (hk : ∀ t ∈ ks, Ev fun n => w_eqForm n t t = some true) : Ev fun n => w_eqFormS n ks ks = some true := by
 refine (Ev.all hk).up (ks.length + 1) fun n hn H => ?_
 rw [w_eqFormS, if_neg (by simp)]
 exact eqForm_loop _ ks hl H ks [] n rfl (by omega)

theorem eqForm_ev (t : F) (hsm : t.sm) : Ev fun n => w_eqForm n t t = some true := by
 induction t using F.ind with
 | _ k n ks ih =>
  obtain ⟨hl, hks⟩ := fsm_kids hsm
  refine (eqFormS_ev ks hl fun t ht => ih t ht (hks t ht)).up 0 fun n _ H => ?_
  rw [w_eqForm, if_neg (by simp), if_neg (by simp), show (F.mk k _ ks).kids = ks from rfl, H, bind_some', if_neg (by simp)]

end Go.Am.Ytpkeophkdemcpaa
