/- Plain laws: the law Untyped: a spoilt expression has a typing just when it has a type. -/
import Derived.Test.YtpkeophkdemcpaaZdExpr
import Derived.Test.YtpkeophkdemcpaaZwUnt
import Derived.Test.YtpkeophkdemcpaaRdA
namespace Go.Am.Ytpkeophkdemcpaa
open Go Go.Am

theorem smv_lam {m : Nat} {n : Int} {t : F} {b y : Pf} {d e : Int} (h1 : s_l09Copy (m + 1) t = some t) (h2 : s_l09Move (m + 1) b (IntKind.i64.wrap (d + 1)) e = some y) :
  s_l09Move (m + 2) (Pf.mk 3 n [t] [b]) d e = some (Pf.mk 3 n [t] [y]) := by
 have e0 : s_l09Move (m + 2) (Pf.mk 3 n [t] [b]) d e = (s_l09Copy (m + 1) t).bind fun r => (s_l09Move (m + 1) b (IntKind.i64.wrap (d + 1)) e).bind fun s => some (Pf.mk 3 n [r] [s]) := by rw [s_l09Move]; rfl
 rw [e0, h1, bind_some', h2, bind_some']
theorem smv_app {m : Nat} {n : Int} {a b x y : Pf} {d e : Int} (h1 : s_l09Move (m + 2) a d e = some x) (h2 : s_l09Move (m + 2) b d e = some y) :
  s_l09Move (m + 3) (Pf.mk 2 n [] [a, b]) d e = some (Pf.mk 2 n [] [x, y]) := by
 have e0 : s_l09Move (m + 3) (Pf.mk 2 n [] [a, b]) d e = (s_l09Move (m + 2) a d e).bind fun r => (s_l09Move (m + 2) b d e).bind fun s => some (Pf.mk 2 n [] [r, s]) := by rw [s_l09Move]; rfl
 rw [e0, h1, bind_some', h2, bind_some']
theorem smv_id (x : Pf) : x.exok = true → x.sm → Ev fun n => ∀ d, s_l09Move n x d 0 = some x := by
 induction x using Pf.ind with
 | _ k n fs ks ih =>
  intro hok hsm
  obtain ⟨⟨hfl, hfs⟩, hkl, hks⟩ := psm_kids hsm
  rcases exok_rules hok with ⟨rfl, h0, h1, rfl, rfl⟩ | ⟨rfl, a, b, rfl, rfl, ha, hbk⟩ | ⟨rfl, a, b, rfl, rfl, ha, hbk⟩
  ·refine (Ev.of (p := fun _ => True) fun _ => trivial).up 0 fun m _ _ d => ?_
   have w1 : IntKind.i64.wrap (n + 0) = n := by rw [w64_eq (by omega) (by omega)]; omega
   have e0 : s_l09Move (m + 1) (Pf.mk 1 n [] []) d 0 = if n ≥ d then some (Pf.mk 1 (IntKind.i64.wrap (n + 0)) [] []) else some (Pf.mk 1 n [] []) := by rw [s_l09Move]; rfl
   rw [e0, w1]
   split <;> rfl
  ·refine ((ih b (by simp) hbk (hks b (by simp))).and (copyS_ev a (hfs a (by simp)))).up 1 fun m hm ⟨q1, q2⟩ d => ?_
   obtain ⟨m, rfl⟩ : ∃ j, m = j + 1 := ⟨m - 1, by omega⟩
   exact smv_lam q2 (q1 _)
  refine ((ih a (by simp) ha (hks a (by simp))).and (ih b (by simp) hbk (hks b (by simp)))).up 2 fun m hm ⟨q1, q2⟩ d => ?_
  obtain ⟨m, rfl⟩ : ∃ j, m = j + 2 := ⟨m - 2, by omega⟩
  exact smv_app (q1 d) (q2 d)

theorem fsm_nil (k n : Int) : (F.mk k n []).sm := by unfold F.sm; exact ⟨by simp, fun t h => by cases h⟩
theorem fsm_one {k n : Int} {t : F} (h : t.sm) : (F.mk k n [t]).sm := by unfold F.sm; exact ⟨by simp, fun u hu => by rw [List.mem_singleton.1 hu]; exact h⟩
theorem fsm_two {k n : Int} {t u : F} (h : t.sm) (h2 : u.sm) : (F.mk k n [t, u]).sm := by
 unfold F.sm
 refine ⟨by simp, fun v hv => ?_⟩
 simp only [List.mem_cons, List.not_mem_nil, or_false] at hv
 rcases hv with rfl | rfl
 ·exact h
 exact h2
theorem anyType_dr {c : List Int} (hc : Byt c) {K : Int} {z : List Int × Int × Int} (h : Dr c K z) (h0 : 0 ≤ K) (hK : K + 30 ≤ 1000000000) :
  ∃ t z', (Ev fun n => s_l00Src_anyType n (z.1, z.2.1, z.2.2) = some (t, z')) ∧ t.sm ∧ Dr c (K + 30) z' := by
 obtain ⟨r, z1, e1, r0, r1, d1⟩ := next_dr hc h (by omega) (n := 4) (by omega) (by omega)
 have e1' : s_l00Src_next (z.1, z.2.1, z.2.2) 4 = some (r, z1) := e1
 have hy : ycost r.toNat ≤ 22 := by
  have : r.toNat = 0 ∨ r.toNat = 1 ∨ r.toNat = 2 ∨ r.toNat = 3 := by omega
  rcases this with h | h | h | h <;> rw [h] <;> decide
 obtain ⟨t, z2, e2, ht, d2, _⟩ := tyType_dr hc r.toNat (by omega) d1 (by omega) (by omega)
 rw [show ((r.toNat : Nat) : Int) = r by omega] at e2
 obtain ⟨b, z3, e3, d3⟩ := chance_dr hc d2 (by omega) (n := 10) (by omega) (by omega)
 have e3' : s_l00Src_chance (z2.1, z2.2.1, z2.2.2) 10 = some (b, z3) := e3
 cases b with
 | false =>
  refine ⟨t, z3, e2.mp fun n q2 => ?_, ht.sm, d3.mono (by omega)⟩
  have q2' : s_l00Src_tyType n (z1.1, z1.2.1, z1.2.2) r = some (t, z2) := q2
  unfold s_l00Src_anyType
  show (s_l00Src_next (z.1, z.2.1, z.2.2) 4).bind _ = _
  rw [e1', bind_some']
  show (s_l00Src_tyType n (z1.1, z1.2.1, z1.2.2) r).bind _ = _
  rw [q2', bind_some']
  show (s_l00Src_chance (z2.1, z2.2.1, z2.2.2) 10).bind _ = _
  rw [e3']; rfl
 | true =>
  obtain ⟨i, z4, e4, i0, i1, d4⟩ := next_dr hc d3 (by omega) (n := 7) (by omega) (by omega)
  have e4' : s_l00Src_next (z3.1, z3.2.1, z3.2.2) 7 = some (i, z4) := e4
  obtain ⟨y, hy, hyi⟩ := idx_get (l := [(F.mk 0 0 []), (F.mk 3 0 []), (F.mk 1 6 []), (F.mk 1 (-1) []), (F.mk 2 0 [t]), (F.mk 1 0 [t]), (F.mk 2 0 [t, (F.mk 0 0 [])])]) (i := i) i0 i1
  have hysm : y.sm := by
   simp only [List.mem_cons, List.not_mem_nil, or_false] at hy
   rcases hy with rfl | rfl | rfl | rfl | rfl | rfl | rfl
   ·exact fsm_nil _ _
   ·exact fsm_nil _ _
   ·exact fsm_nil _ _
   ·exact fsm_nil _ _
   ·exact fsm_one ht.sm
   ·exact fsm_one ht.sm
   exact fsm_two ht.sm (fsm_nil _ _)
  refine ⟨y, z4, e2.mp fun n q2 => ?_, hysm, d4.mono (by omega)⟩
  have q2' : s_l00Src_tyType n (z1.1, z1.2.1, z1.2.2) r = some (t, z2) := q2
  unfold s_l00Src_anyType
  show (s_l00Src_next (z.1, z.2.1, z.2.2) 4).bind _ = _
  rw [e1', bind_some']
  show (s_l00Src_tyType n (z1.1, z1.2.1, z1.2.2) r).bind _ = _
  rw [q2', bind_some']
  show (s_l00Src_chance (z2.1, z2.2.1, z2.2.2) 10).bind _ = _
  rw [e3', bind_some', if_pos rfl]
  show (s_l00Src_next (z3.1, z3.2.1, z3.2.2) 7).bind _ = _
  rw [e4', bind_some']
  show (idx _ i).bind _ = _
  rw [hyi]; rfl

theorem psm_nilU (k n : Int) : (Pf.mk k n [] []).sm := by
 unfold Pf.sm
 exact ⟨⟨by simp, fun t h => by cases h⟩, by simp, fun t h => by cases h⟩
theorem psm_twoU {k n : Int} {a b : Pf} (ha : a.sm) (hb : b.sm) : (Pf.mk k n [] [a, b]).sm := by
 unfold Pf.sm
 refine ⟨⟨by simp, fun t h => by cases h⟩, by simp, fun t h => ?_⟩
 simp only [List.mem_cons, List.not_mem_nil, or_false] at h
 rcases h with rfl | rfl
 ·exact ha
 exact hb
theorem mem_lset {α : Type} {l : List α} {i : Int} {x y : α} (h : y ∈ lset l i x) : y ∈ l ∨ y = x := by
 unfold lset at h
 exact List.mem_or_eq_of_mem_set h
theorem lset_len {α : Type} (l : List α) (i : Int) (x : α) : (lset l i x).length = l.length := by unfold lset; simp

theorem spoilt_dr {c : List Int} (hc : Byt c) (x : Pf) : x.exok = true → x.sm → ∀ {K : Int} {z : List Int × Int × Int}, Dr c K z → 0 ≤ K → K + 3 * x.dep + 100 ≤ 1000000000 →
  ∃ y z', (Ev fun n => s_l00Src_spoiltExpr n (z.1, z.2.1, z.2.2) x = some (y, z')) ∧ y.sm ∧ Dr c (K + 3 * x.dep + 100) z' := by
 induction x using Pf.ind with
 | _ k n fs ks ih =>
  intro hok hsm K z h h0 hK
  have hmv := smv_id _ hok hsm
  obtain ⟨⟨hfl, hfs⟩, hkl, hks⟩ := psm_kids hsm
  have hdep : (Pf.mk k n fs ks).dep = 1 + pdeps ks := by simp only [Pf.dep]
  have hkok : ∀ t ∈ ks, t.exok = true := by
   rcases exok_rules hok with ⟨_, _, _, _, rfl⟩ | ⟨_, a, b, _, rfl, _, hb⟩ | ⟨_, a, b, _, rfl, ha, hb⟩
   ·intro t h; cases h
   ·intro t h; rw [List.mem_singleton.1 h]; exact hb
   intro t h
   simp only [List.mem_cons, List.not_mem_nil, or_false] at h
   rcases h with rfl | rfl
   ·exact ha
   exact hb
  have hkl2 : ks.length ≤ 2 := by
   rcases exok_rules hok with ⟨_, _, _, _, rfl⟩ | ⟨_, a, b, _, rfl, _, hb⟩ | ⟨_, a, b, _, rfl, ha, hb⟩ <;> simp
  -- the end of it
  have tail : ∀ {K' : Int} {w : List Int × Int × Int}, Dr c K' w → 0 ≤ K' → K' + 40 ≤ 1000000000 → ∃ y z', (Ev fun m => (s_l00Src_next (w.1, w.2.1, w.2.2) 4).bind (fun r137 =>
    if r137.1 = 0 then (s_l00Src_next (r137.2.1, r137.2.2.1, r137.2.2.2) 5).bind fun r150 => some ((Pf.mk r150.1 n fs ks), (r150.2.1, r150.2.2.1, r150.2.2.2))
    else if r137.1 = 1 then (s_l00Src_next (r137.2.1, r137.2.2.1, r137.2.2.2) 6).bind fun r163 => (idx ([1, 0, 4, (-1), 100, 101]) r163.1).bind fun y175 => some ((Pf.mk k y175 fs ks), (r163.2.1, r163.2.2.1, r163.2.2.2))
    else if r137.1 = 2 then (if ((fs).length : Int) > 0 then (s_l00Src_anyType m (r137.2.1, r137.2.2.1, r137.2.2.2)).bind fun r182 => (idx fs 0).bind fun y195 => some ((Pf.mk k n (lset fs 0 r182.1) ks), (r182.2.1, r182.2.2.1, r182.2.2.2))
     else some (Pf.mk k n fs ks, (r137.2.1, r137.2.2.1, r137.2.2.2)))
    else (s_l00Src_next (r137.2.1, r137.2.2.1, r137.2.2.2) 3).bind fun r224 => some ((Pf.mk 2 0 [] [Pf.mk k n fs ks, (Pf.mk 1 r224.1 [] [])]), (r224.2.1, r224.2.2.1, r224.2.2.2))) = some (y, z')) ∧ y.sm ∧ Dr c (K' + 40) z' := by
   intro K' w hw hw0 hwK
   obtain ⟨r, z1, e1, r0, r1, d1⟩ := next_dr hc hw (by omega) (n := 4) (by omega) (by omega)
   have e1' : s_l00Src_next (w.1, w.2.1, w.2.2) 4 = some (r, z1) := e1
   have hr : r = 0 ∨ r = 1 ∨ r = 2 ∨ r = 3 := by omega
   rcases hr with rfl | rfl | rfl | rfl
   ·obtain ⟨s, z2, e2, _, _, d2⟩ := next_dr hc d1 (by omega) (n := 5) (by omega) (by omega)
    have e2' : s_l00Src_next (z1.1, z1.2.1, z1.2.2) 5 = some (s, z2) := e2
    refine ⟨Pf.mk s n fs ks, z2, .of fun m => ?_, ?_, d2.mono (by omega)⟩
    ·rw [e1', bind_some', if_pos rfl]
     show (s_l00Src_next (z1.1, z1.2.1, z1.2.2) 5).bind _ = _
     rw [e2']; rfl
    unfold Pf.sm; exact ⟨⟨hfl, hfs⟩, hkl, hks⟩
   ·obtain ⟨s, z2, e2, s0, s1, d2⟩ := next_dr hc d1 (by omega) (n := 6) (by omega) (by omega)
    have e2' : s_l00Src_next (z1.1, z1.2.1, z1.2.2) 6 = some (s, z2) := e2
    obtain ⟨y, _, hyi⟩ := idx_get (l := [(1 : Int), 0, 4, -1, 100, 101]) (i := s) s0 s1
    refine ⟨Pf.mk k y fs ks, z2, .of fun m => ?_, ?_, d2.mono (by omega)⟩
    ·rw [e1', bind_some', if_neg (show ¬ (1 : Int) = 0 by decide), if_pos rfl]
     show (s_l00Src_next (z1.1, z1.2.1, z1.2.2) 6).bind _ = _
     rw [e2', bind_some']
     show (idx [(1 : Int), 0, 4, -1, 100, 101] s).bind _ = _
     rw [hyi]; rfl
    unfold Pf.sm; exact ⟨⟨hfl, hfs⟩, hkl, hks⟩
   ·by_cases hf : ((fs).length : Int) > 0
    ·obtain ⟨t, z2, e2, ht, d2⟩ := anyType_dr hc d1 (by omega) (by omega)
     obtain ⟨y, _, hyi⟩ := idx_get (l := fs) (i := 0) (by omega) (by omega)
     refine ⟨Pf.mk k n (lset fs 0 t) ks, z2, e2.mp fun m q2 => ?_, ?_, d2.mono (by omega)⟩
     ·rw [e1', bind_some', if_neg (show ¬ (2 : Int) = 0 by decide), if_neg (show ¬ (2 : Int) = 1 by decide), if_pos rfl, if_pos hf]
      show (s_l00Src_anyType m (z1.1, z1.2.1, z1.2.2)).bind _ = _
      rw [q2, bind_some', hyi]; rfl
     unfold Pf.sm
     refine ⟨⟨by rw [lset_len]; exact hfl, fun u hu => ?_⟩, hkl, hks⟩
     rcases mem_lset hu with q | rfl
     ·exact hfs u q
     exact ht
    refine ⟨Pf.mk k n fs ks, z1, .of fun m => ?_, hsm, d1.mono (by omega)⟩
    rw [e1', bind_some', if_neg (show ¬ (2 : Int) = 0 by decide), if_neg (show ¬ (2 : Int) = 1 by decide), if_pos rfl, if_neg hf]
   obtain ⟨s, z2, e2, _, _, d2⟩ := next_dr hc d1 (by omega) (n := 3) (by omega) (by omega)
   have e2' : s_l00Src_next (z1.1, z1.2.1, z1.2.2) 3 = some (s, z2) := e2
   refine ⟨Pf.mk 2 0 [] [Pf.mk k n fs ks, Pf.mk 1 s [] []], z2, .of fun m => ?_, psm_twoU hsm (psm_nilU 1 s), d2.mono (by omega)⟩
   rw [e1', bind_some', if_neg (show ¬ (3 : Int) = 0 by decide), if_neg (show ¬ (3 : Int) = 1 by decide), if_neg (show ¬ (3 : Int) = 2 by decide)]
   show (s_l00Src_next (z1.1, z1.2.1, z1.2.2) 3).bind _ = _
   rw [e2']; rfl
  by_cases hk : ((ks).length : Int) > 0
  ·obtain ⟨b, z1, e1, d1⟩ := chance_dr hc h (by omega) (n := 3) (by omega) (by omega)
   have e1' : s_l00Src_chance (z.1, z.2.1, z.2.2) 3 = some (b, z1) := e1
   cases b with
   | true =>
    obtain ⟨y, z2, e2, hy, d2⟩ := tail d1 (by omega) (by omega)
    refine ⟨y, z2, (e2.and hmv).up 0 fun m _ ⟨q2, q3⟩ => ?_, hy, d2.mono (by omega)⟩
    rw [s_l00Src_spoiltExpr, q3 0, bind_some', jn_eq, if_pos (show (((Pf.mk k n fs ks).kids).length : Int) > 0 from hk)]
    show (s_l00Src_chance (z.1, z.2.1, z.2.2) 3).bind _ = _
    rw [e1', bind_some', if_neg (show ¬ (!true) = true by decide)]
    exact q2
   | false =>
    obtain ⟨i, z2, e2, i0, i1, d2⟩ := next_dr hc d1 (by omega) (n := ((ks).length : Int)) (by omega) (by omega)
    have e2' : s_l00Src_next (z1.1, z1.2.1, z1.2.2) ((ks).length : Int) = some (i, z2) := e2
    obtain ⟨x, hx, hxi⟩ := idx_get (l := ks) (i := i) i0 i1
    have hxd := pdeps_mem hx
    obtain ⟨y, z3, e3, hy, d3⟩ := ih x hx (hkok x hx) (hks x hx) d2 (by omega) (by omega)
    refine ⟨Pf.mk k n fs (lset ks i y), z3, (e3.and hmv).up 0 fun m _ ⟨q2, q3⟩ => ?_, ?_, d3.mono (by omega)⟩
    ·rw [s_l00Src_spoiltExpr, q3 0, bind_some', jn_eq, if_pos (show (((Pf.mk k n fs ks).kids).length : Int) > 0 from hk)]
     show (s_l00Src_chance (z.1, z.2.1, z.2.2) 3).bind _ = _
     rw [e1', bind_some', if_pos (show (!false) = true by decide)]
     show (s_l00Src_next (z1.1, z1.2.1, z1.2.2) ((ks).length : Int)).bind _ = _
     rw [e2', bind_some']
     show (idx ks i).bind _ = _
     rw [hxi, bind_some']
     show (s_l00Src_spoiltExpr m (z2.1, z2.2.1, z2.2.2) x).bind _ = _
     rw [q2, bind_some']
     show (idx ks i).bind _ = _
     rw [hxi]; rfl
    unfold Pf.sm
    refine ⟨⟨hfl, hfs⟩, by rw [lset_len]; exact hkl, fun u hu => ?_⟩
    rcases mem_lset hu with q | rfl
    ·exact hks u q
    exact hy
  obtain ⟨y, z2, e2, hy, d2⟩ := tail h h0 (by omega)
  refine ⟨y, z2, (e2.and hmv).up 0 fun m _ ⟨q2, q3⟩ => ?_, hy, d2.mono (by omega)⟩
  rw [s_l00Src_spoiltExpr, q3 0, bind_some', jn_eq, if_neg (show ¬ (((Pf.mk k n fs ks).kids).length : Int) > 0 from hk)]
  exact q2

theorem spoiltOf_ev {l1 : List Int} (hc : Byt l1) : ∃ hs e, (Ev fun n => s_SpoiltExprOf n l1 = some (hs, e)) ∧ (∀ g ∈ hs, g.sm) ∧ e.sm := by
 have hy2 : ycost 2 = 10 := by decide
 obtain ⟨i, z1, e1, i0, i1, d1⟩ := next_dr hc Dr.start (by omega) (n := 4) (by omega) (by omega)
 obtain ⟨hs, z2, e2, hhs, hl, d2⟩ := tyCtx_lp hc i.toNat (l := []) d1 (by omega) (by rw [hy2]; omega) (by omega) (by simp; omega) (fun t h => by cases h)
 rw [show ((i.toNat : Nat) : Int) = i by omega] at e2
 have hl : hs.length = i.toNat := by rw [hl]; simp
 obtain ⟨r, z3, e3, r0, r1, d3⟩ := next_dr hc d2 (by rw [hy2]; omega) (n := 5) (by omega) (by omega)
 have hxc : xcost r.toNat ≤ 100000 := by
  have : r.toNat = 0 ∨ r.toNat = 1 ∨ r.toNat = 2 ∨ r.toNat = 3 ∨ r.toNat = 4 := by omega
  rcases this with h | h | h | h | h <;> rw [h] <;> decide
 have hxp := xcost_pos r.toNat
 obtain ⟨e, t, z4, e4, hx, d4⟩ := expr_dr hc r.toNat (d := r) (hs := hs) (by omega) (by omega) (by omega) d3 (by rw [hy2]; omega) (by rw [hy2]; omega) (fun t ht => (hhs t ht).1) (by omega)
 have hdp := hx.dp
 obtain ⟨y, z5, e5, hy, d5⟩ := spoilt_dr hc e hx.ok hx.sm d4 (by rw [hy2]; omega) (by rw [hy2]; omega)
 have head : ∀ n, 5 ≤ n → (∀ k, i.toNat < k → s_l00Src_tyCtx_L1 n k i z1.1 z1.2.1 z1.2.2 [] = some (hs, z2)) → s_l00Src_expr n (z3.1, z3.2.1, z3.2.2) hs r = some (e, t, z4) → s_l00Src_spoiltExpr n (z4.1, z4.2.1, z4.2.2) e = some (y, z5) →
   s_SpoiltExprOf n l1 = (s_ExprOK n y).bind fun r56 => if (!r56) = true then (s_l00Src_next (z5.1, z5.2.1, z5.2.2) 4).bind fun r64 => some (hs, (Pf.mk 1 r64.1 [] [])) else some (hs, y) := by
  intro n hn q2 q4 q5
  have e1' : s_l00Src_next (l1, 0, Int.tmod ((l1).length : Int) 1000) 4 = some (i, z1) := e1
  have e3' : s_l00Src_next (z2.1, z2.2.1, z2.2.2) 5 = some (r, z3) := e3
  have ht : s_l00Src_tyCtx n (l1, 0, Int.tmod ((l1).length : Int) 1000) = some (hs, z2) := by
   unfold s_l00Src_tyCtx
   show (s_l00Src_next (l1, 0, Int.tmod ((l1).length : Int) 1000) 4).bind _ = _
   rw [e1', bind_some']
   exact q2 n (by omega)
  unfold s_SpoiltExprOf
  rw [ht, bind_some']
  show (s_l00Src_next (z2.1, z2.2.1, z2.2.2) 5).bind _ = _
  rw [e3', bind_some']
  show (s_l00Src_expr n (z3.1, z3.2.1, z3.2.2) hs r).bind _ = _
  rw [q4, bind_some']
  show (s_l00Src_spoiltExpr n (z4.1, z4.2.1, z4.2.2) e).bind _ = _
  rw [q5]; rfl
 have hsm : ∀ g ∈ hs, g.sm := fun g hg => (hhs g hg).1.sm
 cases hok : (decide (y.size ≤ 150) && y.exok) with
 | true =>
  refine ⟨hs, y, (e2.and (e4.and (e5.and (specExprOK_ev y hy)))).at 5 fun n hn ⟨q2, q4, q5, q6⟩ => ?_, hsm, hy⟩
  rw [head n hn q2 q4 q5, q6, hok]; rfl
 | false =>
  obtain ⟨s, z6, e6, _, _, _⟩ := next_dr hc d5 (by rw [hy2]; omega) (n := 4) (by omega) (by omega)
  have e6' : s_l00Src_next (z5.1, z5.2.1, z5.2.2) 4 = some (s, z6) := e6
  refine ⟨hs, Pf.mk 1 s [] [], (e2.and (e4.and (e5.and (specExprOK_ev y hy)))).at 5 fun n hn ⟨q2, q4, q5, q6⟩ => ?_, hsm, psm_nilU _ _⟩
  rw [head n hn q2 q4 q5, q6, hok, bind_some', if_pos (by decide), e6']; rfl

theorem sTypeOf_ev (l : List F) (p : Pf) (hl : ∀ t ∈ l, t.sm) (hp : p.sm) : (tvl l p).1.sm ∧ Ev fun n => s_TypeOf n l p = some (tvl l p) := by
 have hz : F.zz.sm := fzz_sm
 by_cases h4 : 4096 < l.length
 ·have he : tvl l p = (F.zz, 2, 0) := if_pos h4
  rw [he]
  refine ⟨hz, .of fun n => ?_⟩
  unfold s_TypeOf; rw [if_pos (by omega)]; rfl
 have h4' : l.length ≤ 4096 := by omega
 by_cases hok : ((decide (l.length ≤ 12) && l.all tgd) && (decide (p.size ≤ 150) && p.exok)) = true
 ·have hok2 := hok
  simp only [Bool.and_eq_true, decide_eq_true_eq] at hok2
  obtain ⟨⟨ho1, ho2⟩, ho3, ho4⟩ := hok2
  have he : tvl l p = (p.tv l 0).enc := by unfold tvl; rw [if_neg h4, if_pos hok]
  rw [he]
  have hps := ppsz_le p
  have hcs : (p.ty l).sm := ty_sm p hp l hl
  have hA : (decide (l.length ≤ 12) && l.all tgd) = true := by rw [ho2, decide_eq_true ho1]; rfl
  have hB : (decide (p.size ≤ 150) && p.exok) = true := by rw [ho4, decide_eq_true ho3]; rfl
  refine ⟨?_, ((typesOK_ev l h4' hl).and ((specExprOK_ev p hp).and ((typeOf_ev p ho4 hp (by omega) l (fun f hf => ⟨hl f hf, by have := List.all_eq_true.1 ho2 f hf; simp only [tgd, Bool.and_eq_true, decide_eq_true_eq] at this; exact this.2⟩) (by omega)).and ((copyS_ev _ hcs).and (copyS_ev _ hz))))).mp fun n ⟨⟨h2, _⟩, h3, h6, h7, h8⟩ => ?_⟩
  ·cases hq : p.tv l 0 with
   | stop c q => exact hz
   | ok f => rw [tv_ok _ _ _ _ hq]; exact hcs
  have h6s := (h6 0 (by omega) (by omega)).2
  unfold s_TypeOf
  rw [if_neg (by omega), h2, hA, bind_some', if_neg (by decide), h3, hB, bind_some', if_neg (by decide), h6s, bind_some']
  cases hq : p.tv l 0 with
  | stop c q => show (s_l09Copy n F.zz).bind _ = _; rw [h8]; rfl
  | ok f =>
   obtain rfl := tv_ok _ _ _ _ hq
   show (s_l09Copy n (p.ty l)).bind _ = _
   rw [h7]; rfl
 have he : tvl l p = (F.zz, 1, 0) := by unfold tvl; rw [if_neg h4, if_neg hok]
 rw [he]
 refine ⟨hz, ((typesOK_ev l h4' hl).and (specExprOK_ev p hp)).mp fun n ⟨⟨h2, _⟩, h3⟩ => ?_⟩
 unfold s_TypeOf
 rw [if_neg (by omega), h2, bind_some']
 cases hA : (decide (l.length ≤ 12) && l.all tgd) with
 | false => rw [if_pos (by decide)]; rfl
 | true =>
  have hB : (decide (p.size ≤ 150) && p.exok) = false := by
   cases hB : (decide (p.size ≤ 150) && p.exok) with
   | false => rfl
   | true => rw [hA, hB] at hok; exact absurd rfl hok
  rw [if_neg (by decide), h3, bind_some', hB, if_pos (by decide)]; rfl

theorem encT_code {n : Nat} {l : List F} {p : Pf} {v : T × T × Int} {w : F × Int × Int} (h : i_EncodeTyping n l p = some (.ok v)) (k : i_TypeOf n l p = some w) : v.2.2 = w.2.1 ∨ (w.2.1 = 0 ∧ v.2.2 = 11) := by
 unfold i_EncodeTyping at h
 rw [k, bind_some'] at h
 by_cases hc : (w.2.1 != 0) = true
 ·rw [if_pos hc] at h
  cases h
  exact .inl rfl
 rw [if_neg hc] at h
 have hw : w.2.1 = 0 := by simpa using hc
 obtain ⟨r1, _, h⟩ := bind_t h
 obtain ⟨r2, _, h⟩ := bind_t h
 obtain ⟨r3, _, h⟩ := zb_t h
 cases r3 with
 | stop c q => cases h
 | ok r3 =>
  replace h := bd_ok h
  rw [jn_eq] at h
  obtain ⟨r4, _, h⟩ := zb_t h
  cases r4 with
  | stop c q => cases h
  | ok r4 =>
   replace h := bd_ok h
   obtain ⟨r5, _, h⟩ := bind_t h
   obtain ⟨r6, _, h⟩ := bind_t h
   split at h
   ·cases h; exact .inr ⟨hw, rfl⟩
   obtain ⟨r7, _, h⟩ := bind_t h
   split at h
   ·cases h; exact .inr ⟨hw, rfl⟩
   cases h; exact .inl hw.symm

theorem usameT_lp (rec : F → F → Option Bool) (x : F) (hl : x.kids.length ≤ 1048576) (H : ∀ y ∈ x.kids, rec y y = some true) :
  ∀ (r a : List F) (m : Nat), x.kids = a ++ r → r.length < m → w_sameType_L1 rec x x m a.length = some true
 | [], a, m, e, hm => by
  obtain ⟨m, rfl⟩ : ∃ k, m = k + 1 := ⟨m - 1, by omega⟩
  rw [w_sameType_L1, e, if_neg (lt_end a)]
 | y :: r, a, m, e, hm => by
  obtain ⟨m, rfl⟩ : ∃ k, m = k + 1 := ⟨m - 1, by simp at hm; omega⟩
  have hlen : (a ++ y :: r).length ≤ 9223372036854775807 := by rw [← e]; omega
  rw [w_sameType_L1, e, if_pos (lt_mid a y r), idx_mid, bind_some', bind_some', H y (by rw [e]; simp), bind_some', if_neg (by decide), w64_mid a y r hlen]
  exact usameT_lp rec x hl H r (a ++ [y]) m (by rw [e]; simp) (by simp at hm; omega)
theorem usameT_ev (t : F) : t.sm → Ev fun n => w_sameType n t t = some true := by
 induction t using F.ind with
 | _ k n ks ih =>
  intro hsm
  have hk := fsm_kids hsm
  refine (Ev.all (p := fun y n => w_sameType n y y = some true) fun y hy => ih y hy (hk.2 y hy)).up (ks.length + 1) fun n hn h => ?_
  rw [w_sameType, if_neg (by simp), if_neg (by simp), if_neg (by simp)]
  exact usameT_lp (w_sameType n) (F.mk k _ ks) hk.1 h ks [] n rfl (by omega)

theorem lawUntyped_ev (l1 : List Int) (h1 : ∀ b ∈ l1, 0 ≤ b ∧ b ≤ 255) : Ev fun n => w_FnUntyped n l1 = some (.ok true) := by
 by_cases b1 : ((l1).length : Int) > 1048576
 ·refine .of fun n => ?_
  unfold w_FnUntyped; rw [if_pos b1]
 have hc1 : Byt l1 := ⟨by omega, h1⟩
 obtain ⟨hs, e, hE, hsm, hes⟩ := spoiltOf_ev hc1
 obtain ⟨ht, hS⟩ := sTypeOf_ev hs e hsm hes
 obtain ⟨v, _, _, hv⟩ := encT_ev hs e hsm hes
 refine (hE.and ((iTypeOf_ev hs e hsm hes).and (hS.and (hv.and (usameT_ev _ ht))))).mp fun n ⟨q1, q2, q3, ⟨_, q4⟩, q5⟩ => ?_
 have hcode := encT_code q4 q2
 unfold w_FnUntyped
 rw [if_neg b1, q1, bind_some']
 show (i_TypeOf n hs e).bind _ = _
 rw [q2, bind_some']
 show (s_TypeOf n hs e).bind _ = _
 rw [q3, bind_some']
 show zb (i_EncodeTyping n hs e) _ = _
 rw [q4, zb_ok, if_pos rfl, q5, bind_some', if_pos rfl]
 rcases hcode with hc | ⟨hc1, hc2⟩
 ·rw [if_pos hc.symm]
 by_cases hx : (tvl hs e).2.1 = v.2.2
 ·rw [if_pos hx]
 rw [if_neg hx, if_pos hc1, hc2]; rfl

theorem lawFnUntyped_ok (l1 : List Int) (h1 : ∀ b ∈ l1, 0 ≤ b ∧ b ≤ 255) :
  ∀ tk, 2 ≤ tk → ACalls Go.Proofs.Try.prog 5 [.imm 0 1 false (l1.map fun n => [.int .u8 n])] (fun _ => none) tk (RetX (fun _ => none) tk (fun v _ => v = .bool true)) := by
 intro tk h2
 obtain ⟨n, hn⟩ := (lawUntyped_ev l1 h1).get
 exact (w_FnUntyped_ok n false l1 hn (fun _ => none) tk h2).mono fun out O' tk' h => h

end Go.Am.Ytpkeophkdemcpaa
