/- Plain laws: counting the nodes of proofs or expressions. -/
import Derived.Test.YtpkeophkdemcpaaPuB
import Derived.Test.YtpkeophkdemcpaaPuType
import Derived.Test.YtpkeophkdemcpaaMlExpr
import Derived.Test.YtpkeophkdemcpaaPvType
import Derived.Test.YtpkeophkdemcpaaMkExpr
namespace Go.Am.Ytpkeophkdemcpaa
open Go Go.Am

end Go.Am.Ytpkeophkdemcpaa
namespace Go.Am.Ytpkeophkdemcpaa
open Go Go.Am

theorem cntExpr_loop2 (rec : Pf → Int → Option Int) (x : Pf) (hl : x.kids.length ≤ 1048576) (H : ∀ y ∈ x.kids, ∀ left, 0 ≤ left → left ≤ 1000 → rec y left = some (y.cnt left)) :
  ∀ (r a : List Pf) (m : Nat) (left : Int), x.kids = a ++ r → r.length < m → -1 ≤ left → left ≤ 1000 → s_l09Count_L2 rec x m left a.length = some (pcnts r left)
 | [], a, m, left, e, hm, h0, h1 => by
  obtain ⟨m, rfl⟩ : ∃ k, m = k + 1 := ⟨m - 1, by omega⟩
  rw [s_l09Count_L2, e, if_neg (lt_end a)]; rfl
 | y :: r, a, m, left, e, hm, h0, h1 => by
  obtain ⟨m, rfl⟩ : ∃ k, m = k + 1 := ⟨m - 1, by omega⟩
  have hy : y ∈ x.kids := by rw [e]; simp
  rw [s_l09Count_L2]
  have e1 : (a.length : Int) < (x.kids.length : Int) := by rw [e]; exact lt_mid a y r
  rw [if_pos e1]
  simp only [pcnts]
  split
  ·rename_i hge
   have hr := pcnt_range y left hge
   rw [show idx x.kids (a.length : Int) = some y by rw [e]; exact idx_mid a y r, bind_some', H y hy left hge h1, bind_some']
   rw [show IntKind.i64.wrap ((a.length : Int) + 1) = ((a ++ [y]).length : Int) from w64_mid a y r (by rw [← e]; omega)]
   exact cntExpr_loop2 rec x hl H r (a ++ [y]) m (y.cnt left) (by simp [e]) (by simpa using hm) (by omega) (by omega)
  rfl

theorem cntExpr_loop1 (rec : Pf → Int → Option Int) (n : Nat) (x : Pf) (hl : x.kids.length ≤ 1048576) (hf : x.forms.length ≤ 1048576) (hn : x.kids.length < n) (H : ∀ y ∈ x.kids, ∀ left, 0 ≤ left → left ≤ 1000 → rec y left = some (y.cnt left))
  (HF : ∀ y ∈ x.forms, ∀ left, 0 ≤ left → left ≤ 1000 → s_l09TypeCount n y left = some (y.cnt left)) :
  ∀ (r a : List F) (m : Nat) (left : Int), x.forms = a ++ r → r.length < m → -1 ≤ left → left ≤ 1000 → s_l09Count_L1 rec n x m left a.length = some (pcnts x.kids (fcnts r left))
 | [], a, m, left, e, hm, h0, h1 => by
  obtain ⟨m, rfl⟩ : ∃ k, m = k + 1 := ⟨m - 1, by omega⟩
  rw [s_l09Count_L1, e, if_neg (lt_end a)]
  exact cntExpr_loop2 rec x hl H x.kids [] n left rfl hn h0 h1
 | y :: r, a, m, left, e, hm, h0, h1 => by
  obtain ⟨m, rfl⟩ : ∃ k, m = k + 1 := ⟨m - 1, by omega⟩
  have hy : y ∈ x.forms := by rw [e]; simp
  rw [s_l09Count_L1]
  have e1 : (a.length : Int) < (x.forms.length : Int) := by rw [e]; exact lt_mid a y r
  rw [if_pos e1]
  simp only [fcnts]
  split
  ·rename_i hge
   have hr := cnt_range y left hge
   rw [show idx x.forms (a.length : Int) = some y by rw [e]; exact idx_mid a y r, bind_some', HF y hy left hge h1, bind_some']
   rw [show IntKind.i64.wrap ((a.length : Int) + 1) = ((a ++ [y]).length : Int) from w64_mid a y r (by rw [← e]; omega)]
   exact cntExpr_loop1 rec n x hl hf hn H HF r (a ++ [y]) m (y.cnt left) (by simp [e]) (by simpa using hm) (by omega) (by omega)
  exact cntExpr_loop2 rec x hl H x.kids [] n left rfl hn h0 h1

theorem cntExpr_ev (t : Pf) (hsm : t.sm) : Ev fun n => ∀ left, 0 ≤ left → left ≤ 1000 → s_l09Count n t left = some (t.cnt left) := by
 induction t using Pf.ind with
 | _ k n fs ks ih =>
  obtain ⟨⟨hfl, hfs⟩, hl, hks⟩ := psm_kids hsm
  refine ((Ev.all fun t ht => cntType_ev t (hfs t ht)).and (Ev.all fun t ht => ih t ht (hks t ht))).up (ks.length + fs.length + 1) fun fu hn ⟨HF, H⟩ left h0 h1 => ?_
  rw [s_l09Count, w64_eq (by omega) (by omega)]
  simp only [Pf.cnt]
  exact cntExpr_loop1 _ fu (Pf.mk k n fs ks) hl hfl (by show ks.length < fu; omega) H HF fs [] fu _ rfl (by omega) (by omega) (by omega)

end Go.Am.Ytpkeophkdemcpaa
