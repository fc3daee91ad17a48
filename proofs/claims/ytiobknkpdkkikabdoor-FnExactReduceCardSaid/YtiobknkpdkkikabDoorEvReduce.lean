/- Plain laws: the law of Reduce. -/
import Derived.Test.YtiobknkpdkkikabDoorEsPut
import Derived.Test.YtiobknkpdkkikabDoorPsNod
import Derived.Test.YtiobknkpdkkikabDoorEwReduce
namespace Go.Am.YtiobknkpdkkikabDoor
open Go Go.Am

theorem T_eta (t : T) : T.mk t.kind t.n t.name t.kids = t := by cases t; rfl
theorem mark_any (t : T) (k : Int) (h0 : 0 ≤ k) (hb : k + 3 * (t.size : Int) ≤ 9223372036854775807) : ∃ r, w_markTree t k = some (r, k + 3 * (tnodes t.kids : Int)) := by
  have hs : (tnodes t.kids : Int) ≤ t.size := by
    have := nodes_size t
    obtain ⟨k, n, s, ks⟩ := t
    simp only [T.nodes, T.kids] at *
    omega
  refine ⟨(tmarks mtx t.kids k).1, ?_⟩
  have : w_markTree t k = some (tmarks mtx t.kids k) := rfl
  rw [this, ← tmarks_snd mtx t.kids k h0 (by omega)]
theorem marks_any (l : List T) (k : Int) (h0 : 0 ≤ k) (hb : k + 3 * (tnodes l : Int) ≤ 9223372036854775807) : ∃ r, w_markTreeS l k = some (r, k + 3 * (tnodes l : Int)) := by
  refine ⟨(tmarks mtx l k).1, ?_⟩
  have : w_markTreeS l k = some (tmarks mtx l k) := rfl
  rw [this, ← tmarks_snd mtx l k h0 (by omega)]
theorem toTrees_ev (ks : List T) (hl : ks.length ≤ 1048576) (hks : ∀ t ∈ ks, t.sm) : Ev fun n => w_toTreeS n ks = some ks := by
  refine (Ev.all fun t ht => toTree_ev t (hks t ht)).up (ks.length + 1) fun n hn H => ?_
  rw [w_toTreeS, chk_of (by omega)]
  exact toTree_loop _ ks hl H ks [] n rfl (by omega)
theorem eqTss_ev (ks : List T) (hl : ks.length ≤ 1048576) (hks : ∀ t ∈ ks, t.sm) : Ev fun n => w_eqTreeS n ks ks = some true := by
  refine (Ev.all fun t ht => eqTs_ev t (hks t ht)).up (ks.length + 1) fun n hn H => ?_
  rw [w_eqTreeS, if_neg (by simp)]
  exact eqTs_loop _ ks hl H ks [] n rfl (by omega)
theorem longL_ev (k : Nat) : Ev fun n => i_longLists n [(k : Int)] = some (decide (4096 < k)) := by
  refine ⟨1, fun n hn => ?_⟩
  obtain ⟨n, rfl⟩ : ∃ m, n = m + 1 := ⟨n - 1, by omega⟩
  show i_longLists (n + 1) [(k : Int)] = _
  have : i_longLists (n + 1) [(k : Int)] = some (decide ((k : Int) > 4096)) := by unfold i_longLists g_Max_X; rfl
  rw [this, show decide ((k : Int) > 4096) = decide (4096 < k) from decide_eq_decide.2 (by omega)]
def okT (t : T) : Bool := decide (t.size ≤ 150) && t.tmok
theorem index_lp (n : Nat) (l : List T) (hl : l.length ≤ 1048576) (H : ∀ y ∈ l, i_TermOK n y = some (okT y)) : ∀ (r a : List T) (m : Nat), l = a ++ r → r.length < m → ∃ j, g_IndexFunc_Tree__fn_i_badTerm_L1 n l m a.length = some j ∧ decide (j ≥ 0) = !(r.all okT)
  | [], a, m, e, hm => by
    obtain ⟨m, rfl⟩ : ∃ k, m = k + 1 := ⟨m - 1, by omega⟩
    subst e
    exact ⟨-1, by rw [g_IndexFunc_Tree__fn_i_badTerm_L1, if_neg (lt_end a)], rfl⟩
  | y :: r, a, m, e, hm => by
    obtain ⟨m, rfl⟩ : ∃ k, m = k + 1 := ⟨m - 1, by omega⟩
    have e1 : (a.length : Int) < (l.length : Int) := by rw [e]; exact lt_mid a y r
    have e2 : idx l (a.length : Int) = some y := by rw [e]; exact idx_mid a y r
    have hw : IntKind.i64.wrap ((a.length : Int) + 1) = ((a ++ [y]).length : Int) := w64_mid a y r (by rw [← e]; omega)
    obtain ⟨j, h1, h2⟩ := index_lp n l hl H r (a ++ [y]) m (by simp [e]) (by simpa using hm)
    have hb : i_badTerm n y = some (!(okT y)) := by unfold i_badTerm; rw [H y (by rw [e]; simp)]; rfl
    rw [g_IndexFunc_Tree__fn_i_badTerm_L1, if_pos e1, e2, bind_some', hb, bind_some', hw]
    cases hy : okT y with
    | false => exact ⟨(a.length : Int), rfl, by rw [List.all_cons, hy]; exact decide_eq_true (by omega)⟩
    | true => exact ⟨j, h1, by rw [List.all_cons, hy, Bool.true_and]; exact h2⟩
theorem spine_lp (n : Nat) (l : List T) (hl : l.length ≤ 1048576) (H : ∀ y ∈ l, s_TermOK n y = some (okT y)) : ∀ (r a : List T) (m : Nat), l = a ++ r → r.length < m → s_l03Spine_L1 n l m a.length = some (r.all okT)
  | [], a, m, e, hm => by
    obtain ⟨m, rfl⟩ : ∃ k, m = k + 1 := ⟨m - 1, by omega⟩
    subst e
    rw [s_l03Spine_L1, if_neg (lt_end a)]; rfl
  | y :: r, a, m, e, hm => by
    obtain ⟨m, rfl⟩ : ∃ k, m = k + 1 := ⟨m - 1, by omega⟩
    have e1 : (a.length : Int) < (l.length : Int) := by rw [e]; exact lt_mid a y r
    have e2 : idx l (a.length : Int) = some y := by rw [e]; exact idx_mid a y r
    have hw : IntKind.i64.wrap ((a.length : Int) + 1) = ((a ++ [y]).length : Int) := w64_mid a y r (by rw [← e]; omega)
    rw [s_l03Spine_L1, if_pos e1, e2, bind_some', H y (by rw [e]; simp), bind_some', hw, spine_lp n l hl H r (a ++ [y]) m (by simp [e]) (by simpa using hm), List.all_cons]
    cases okT y <;> rfl
theorem spine_ev (l : List T) (hl : l.length ≤ 1048576) (hs : ∀ t ∈ l, t.sm) : Ev fun n => g_ContainsFunc_Tree__fn_i_badTerm n l = some (!(l.all okT)) ∧ s_l03Spine n l = some (l.all okT) := by
  refine (Ev.all fun t ht => (implTermOK_ev t (hs t ht)).and (specTermOK_ev t (hs t ht))).at (l.length + 1) fun n hn H => ⟨?_, ?_⟩
  · obtain ⟨j, h1, h2⟩ := index_lp n l hl (fun y hy => (H y hy).1) l [] n rfl (by omega)
    unfold g_ContainsFunc_Tree__fn_i_badTerm g_IndexFunc_Tree__fn_i_badTerm
    have h1 : g_IndexFunc_Tree__fn_i_badTerm_L1 n l n 0 = some j := h1
    rw [h1, bind_some', h2]
  · exact spine_lp n l hl (fun y hy => (H y hy).2) l [] n rfl (by omega)

theorem reduceBoth_ev (f a : T) (l : List T) (hf : f.sm) (ha : a.sm) (hl : l.length ≤ 1048576) (hs : ∀ t ∈ l, t.sm) : ∃ v : T × Int, v.1.size ≤ 150 ∧ v.1.sm ∧ Ev fun n => s_Reduce n f a l = some v ∧ i_Reduce n f a l = some v := by
  have hz : (T.mk 0 0 ⟨#[]⟩ []).size ≤ 150 ∧ (T.mk 0 0 ⟨#[]⟩ []).sm := ⟨by decide, by unfold T.sm; exact ⟨by decide, by decide, fun t ht => by cases ht⟩⟩
  by_cases hll : 4096 < l.length
  · refine ⟨(T.mk 0 0 ⟨#[]⟩ [], 2), hz.1, hz.2, (longL_ev l.length).mp fun n h => ?_⟩
    unfold s_Reduce i_Reduce
    rw [h, decide_eq_true hll, if_pos (by omega)]; exact ⟨rfl, rfl⟩
  · have hE0 := (longL_ev l.length).and ((specTermOK_ev f hf).and ((implTermOK_ev f hf).and ((specSimpleOK_ev a ha).and ((implSimpleOK_ev a ha).and (spine_ev l hl hs)))))
    have start : ∀ n, i_longLists n [(l.length : Int)] = some (decide (4096 < l.length)) → s_Reduce n f a l = (s_TermOK n f).bind (fun r5 => if (!r5) = true then some ((T.mk 0 0 ⟨#[]⟩ []), 1) else (s_SimpleOK n a).bind fun r13 => if (!r13) = true then some ((T.mk 0 0 ⟨#[]⟩ []), 1) else (s_l03Spine n l).bind fun r21 => if (!r21) = true then some ((T.mk 0 0 ⟨#[]⟩ []), 1) else (s_l03Run_reduce n 0 f a l).bind fun r29 => some (r29.1, r29.2.1)) ∧
        i_Reduce n f a l = (i_badTerm n f).bind (fun r12 => if r12 = true then some ((T.mk 0 0 ⟨#[]⟩ []), 1) else (i_badSimple n a).bind fun r20 => if r20 = true then some ((T.mk 0 0 ⟨#[]⟩ []), 1) else (g_ContainsFunc_Tree__fn_i_badTerm n l).bind fun r28 => if r28 = true then some ((T.mk 0 0 ⟨#[]⟩ []), 1) else (i_result__fn_i_Reduce_c1kkk n f a l).bind fun r36 => some (r36.1, r36.2)) := by
      intro n h
      constructor
      · unfold s_Reduce; rw [if_neg (by omega)]
      · unfold i_Reduce; rw [h, decide_eq_false hll, bind_some', if_neg (by decide)]
    cases hr1 : (decide (f.size ≤ 150) && f.tmok) with
    | false =>
      refine ⟨(T.mk 0 0 ⟨#[]⟩ [], 1), hz.1, hz.2, hE0.mp fun n ⟨h0, h1, h2, h3, h4, h5, h6⟩ => ?_⟩
      obtain ⟨e1, e2⟩ := start n h0
      unfold i_badTerm at e2
      rw [e1, e2, h1, h2, hr1]; exact ⟨rfl, rfl⟩
    | true =>
      cases hr2 : (decide (a.size ≤ 150) && a.simok) with
      | false =>
        refine ⟨(T.mk 0 0 ⟨#[]⟩ [], 1), hz.1, hz.2, hE0.mp fun n ⟨h0, h1, h2, h3, h4, h5, h6⟩ => ?_⟩
        obtain ⟨e1, e2⟩ := start n h0
        unfold i_badTerm i_badSimple at e2
        rw [e1, e2, h1, h2, hr1, h3, h4, hr2]; exact ⟨rfl, rfl⟩
      | true =>
        cases hr3 : l.all okT with
        | false =>
          refine ⟨(T.mk 0 0 ⟨#[]⟩ [], 1), hz.1, hz.2, hE0.mp fun n ⟨h0, h1, h2, h3, h4, h5, h6⟩ => ?_⟩
          obtain ⟨e1, e2⟩ := start n h0
          unfold i_badTerm i_badSimple at e2
          rw [e1, e2, h1, h2, hr1, h3, h4, hr2, h5, h6, hr3]; exact ⟨rfl, rfl⟩
        | true =>
          have hh1 : f.size ≤ 150 ∧ f.tmok = true := by simpa using hr1
          have hh2 : a.size ≤ 150 ∧ a.simok = true := by simpa using hr2
          have hh3 : ∀ x ∈ l, x.gd := fun x hx => by
            have := List.all_eq_true.1 hr3 x hx
            unfold okT at this
            simp only [Bool.and_eq_true, decide_eq_true_eq] at this
            exact tmok_gd x this.2 this.1 (hs x hx)
          obtain ⟨z, y, hR, hO, hE⟩ := apply_ev l f a (tmok_gd f hh1.2 hh1.1 hf) hh2.2 hh3 (by omega)
          cases z with
          | stop c p =>
            refine ⟨(T.mk 0 0 ⟨#[]⟩ [], c), hz.1, hz.2, (hE0.and hE).mp fun n ⟨⟨h0, h1, h2, h3, h4, h5, h6⟩, h7, h8⟩ => ?_⟩
            obtain ⟨q1, q2, q3⟩ := hR
            have hcap : i_result__fn_i_Reduce_c1kkk n f a l = some (T.mk 0 0 ⟨#[]⟩ [], c) := by
              unfold i_result__fn_i_Reduce_c1kkk i_result_c1__of_i_Reduce_c1_kv i_Reduce_c1__kkk
              rw [h7]
              show (if (c != 0) = true then some (T.mk 0 0 ⟨#[]⟩ [], c) else none) = _
              rw [if_pos (by simpa using q3)]
            obtain ⟨e1, e2⟩ := start n h0
            unfold i_badTerm i_badSimple at e2
            rw [e1, e2, h1, h2, hr1, h3, h4, hr2, h5, h6, hr3, h8, hcap]
            obtain ⟨y1, y2, y3⟩ := y
            have q1 : y1 = T.mk 0 0 ⟨#[]⟩ [] := q1
            have q2 : y2 = c := q2
            subst q1 q2
            exact ⟨rfl, rfl⟩
          | ok r =>
            have hy : y = (r.1, 0, r.2) := hR
            obtain ⟨hg, _, _⟩ := hO
            refine ⟨(r.1, 0), hg.1, hg.2.2.2, (hE0.and (hE.and (clone_ev r.1 hg.2.2.2))).mp fun n ⟨⟨h0, h1, h2, h3, h4, h5, h6⟩, ⟨h7, h8⟩, h9⟩ => ?_⟩
            have hcap : i_result__fn_i_Reduce_c1kkk n f a l = some (r.1, 0) := by
              unfold i_result__fn_i_Reduce_c1kkk i_result_c1__of_i_Reduce_c1_kv i_Reduce_c1__kkk
              rw [h7]
              show (i_clone n r.1).bind _ = _
              rw [h9]; rfl
            obtain ⟨e1, e2⟩ := start n h0
            unfold i_badTerm i_badSimple at e2
            rw [e1, e2, h1, h2, hr1, h3, h4, hr2, h5, h6, hr3, h8, hcap, hy]
            exact ⟨rfl, rfl⟩

theorem szS_sm (l : List T) (left : Int) (h0 : 0 ≤ left) (h1 : left ≤ 1048576) (h : 0 ≤ szS l left) : l.length ≤ 1048576 ∧ (∀ t ∈ l, t.sm) ∧ (sizes l : Int) ≤ 1048576 + l.length := by
  unfold szS at h
  split at h
  · omega
  · rename_i hb
    have key : ∀ (l : List T) (left : Int), 0 ≤ left → left ≤ 1048576 → 0 ≤ szs l left → (∀ t ∈ l, t.sm) ∧ (sizes l : Int) ≤ left - szs l left + l.length := by
      intro l
      induction l with
      | nil => intro left a b c; exact ⟨fun t ht => (by cases ht), by simp [szs, sizes]⟩
      | cons t r ih =>
        intro left a b c
        simp only [szs] at c
        split at c
        · omega
        · rename_i hn
          have hr := sz_range t left a
          have hz := sz_size t left a (by omega)
          obtain ⟨i1, i2⟩ := ih (t.sz left) (by omega) (by omega) c
          refine ⟨fun x hx => ?_, ?_⟩
          · rcases List.mem_cons.1 hx with rfl | hx
            · exact sz_sm x left a b (by omega)
            · exact i1 x hx
          · simp only [szs, if_neg hn, sizes, List.length_cons]; push_cast; omega
    obtain ⟨i1, i2⟩ := key l _ (by omega) (by omega) h
    exact ⟨by omega, i1, by omega⟩
theorem tnodes_sizes (l : List T) : tnodes l = sizes l := by
  induction l with
  | nil => rfl
  | cons a r ih => simp only [tnodes, sizes]; rw [nodes_size a, ih]

theorem lawReduce_ev (f a : T) (l : List T) (okf : f.ok) (oka : a.ok) (hl0 : l.length ≤ 9223372036854775807) (okl : ∀ t ∈ l, t.ok) : Ev fun n => w_FnExactReduce n f a l = some true := by
  by_cases b1 : f.sz 1048576 < 0
  · refine (szTree_ev f okf).mp fun n h => ?_
    unfold w_FnExactReduce
    rw [h 1048576 (by omega) (by omega), bind_some', if_pos b1]
  · have r1 := sz_range f 1048576 (by omega)
    have hf := sz_sm f 1048576 (by omega) (by omega) (by omega)
    have z1 := sz_size f 1048576 (by omega) (by omega)
    by_cases b2 : a.sz (f.sz 1048576) < 0
    · refine ((szTree_ev f okf).and (szTree_ev a oka)).mp fun n ⟨h1, h2⟩ => ?_
      unfold w_FnExactReduce
      rw [h1 1048576 (by omega) (by omega), bind_some', if_neg b1, h2 _ (by omega) (by omega), bind_some', if_pos b2]
    · have r2 := sz_range a (f.sz 1048576) (by omega)
      have ha := sz_sm a (f.sz 1048576) (by omega) (by omega) (by omega)
      have z2 := sz_size a (f.sz 1048576) (by omega) (by omega)
      have hSz := szTreeS_ev l hl0 fun t ht => szTree_ev t (okl t ht)
      by_cases b3 : szS l (a.sz (f.sz 1048576)) < 0
      · refine ((szTree_ev f okf).and ((szTree_ev a oka).and hSz)).mp fun n ⟨h1, h2, h3⟩ => ?_
        unfold w_FnExactReduce
        rw [h1 1048576 (by omega) (by omega), bind_some', if_neg b1, h2 _ (by omega) (by omega), bind_some', if_neg b2, h3 _ (by omega) (by omega), bind_some', if_pos b3]
      · obtain ⟨hl, hls, hlz⟩ := szS_sm l (a.sz (f.sz 1048576)) (by omega) (by omega) (by omega)
        obtain ⟨v, hv, hvs, hE⟩ := reduceBoth_ev f a l hf ha hl hls
        have hns := nodes_size v.1
        have hk : ∀ x : T, tnodes x.kids ≤ x.size := by
          intro x
          have := nodes_size x
          obtain ⟨k, n, s, ks⟩ := x
          simp only [T.nodes, T.kids] at *; omega
        have k1 := hk f; have k2 := hk a; have k4 := hk v.1; have k3 := tnodes_sizes l
        obtain ⟨m1, hm1⟩ := mark_any f 1 (by omega) (by omega)
        obtain ⟨m2, hm2⟩ := mark_any a (1 + 3 * (tnodes f.kids : Int)) (by omega) (by omega)
        obtain ⟨m3, hm3⟩ := marks_any l (1 + 3 * (tnodes f.kids : Int) + 3 * (tnodes a.kids : Int)) (by omega) (by omega)
        refine ((szTree_ev f okf).and ((szTree_ev a oka).and (hSz.and ((toTree_ev f hf).and ((toTree_ev a ha).and ((toTrees_ev l hl hls).and (hE.and ((eqTs_ev f hf).and ((eqTs_ev a ha).and ((eqTss_ev l hl hls).and ((eqTs_ev v.1 hvs).and (heldTree_ev v.1 (by omega))))))))))))).mp fun n ⟨h1, h2, h3, h4, h5, h6, ⟨h7, h8⟩, h9, h10, h11, h12, h13, h14⟩ => ?_
        unfold w_FnExactReduce
        rw [h1 1048576 (by omega) (by omega), bind_some', if_neg b1, h2 _ (by omega) (by omega), bind_some', if_neg b2, h3 _ (by omega) (by omega), bind_some', if_neg b3]
        have n1 : ¬ (1 + 3 * (tnodes f.kids : Int) + 3 * (tnodes a.kids : Int) + 3 * (tnodes l : Int)) < 0 := by omega
        have n2 : ¬ (1 + 3 * (tnodes v.1.kids : Int)) < 0 := by omega
        simp only [jn_eq, h4, h5, h6, h7, h8, h9, h10, h11, h12, h13, h14, hm1, hm2, hm3, T_eta, bind_some', Bool.not_true, Bool.false_eq_true, if_false, bne_self_eq_false, if_neg n1, if_neg n2]

theorem old_tstoks {l : List LT} (h : ∀ t ∈ l, old t.toks) : ∀ x ∈ tstoks 0 l, x = 0 := by
  have key : ∀ l : List LT, (∀ t ∈ l, old t.toks) → ∀ x ∈ ttoks l, x = 0 := by
    intro l
    induction l with
    | nil => intro _ x hx; cases hx
    | cons a r ih =>
      intro h x hx
      simp only [ttoks] at hx
      rcases List.mem_append.1 hx with hx | hx
      · exact h a (by simp) x hx
      · exact ih (fun t ht => h t (by simp [ht])) x hx
  intro x hx
  cases l with
  | nil => cases hx
  | cons a r =>
    rcases List.mem_cons.1 hx with rfl | hx
    · rfl
    · exact key _ h x hx
theorem lawReduce_ok (f : LT) (okf : f.er.ok) (oldf : old f.toks) (a : LT) (oka : a.er.ok) (olda : old a.toks) (l : List LT) (hl : l.length ≤ 9223372036854775807) (okl : ∀ t ∈ l, t.er.ok) (oldl : ∀ t ∈ l, old t.toks) : ∀ tk, 2 ≤ tk → ACalls Go.Proofs.Tryd.prog 3 [.agg f.cells, .agg a.cells, .imm 0 4 false (cellss l)] (fun _ => none) tk (RetX (fun _ => none) tk (fun v _ => v = .bool true)) := by
  intro tk h2
  obtain ⟨n, hn⟩ := (lawReduce_ev f.er a.er (ers l) okf oka (by rw [ers_map, List.length_map]; exact hl) (fun t ht => by rw [ers_map] at ht; obtain ⟨t', h1, rfl⟩ := List.mem_map.1 ht; exact okl t' h1)).get
  obtain ⟨k1, m1, s1, q1, f1, ks1⟩ := f
  obtain ⟨k2, m2, s2, q2, f2, ks2⟩ := a
  rw [LT.toks_eq] at oldf olda
  exact w_FnExactReduce_ok n k1 m1 s1 q1 f1 ks1 k2 m2 s2 q2 f2 ks2 0 false l hn (fun x hx => oldf x hx) (fun x hx => olda x hx) (old_tstoks oldl) _ tk rfl h2

end Go.Am.YtiobknkpdkkikabDoor
