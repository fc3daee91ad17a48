/- Plain laws: expressions as terms, by levels and by places. -/
import Derived.Test.YtiobknkpdkkikaaPvTTree
import Derived.Test.YtiobknkpdkkikaaPvExpr
import Derived.Test.YtiobknkpdkkikaaPuPsz0
import Derived.Test.YtiobknkpdkkikaaEpEnc
namespace Go.Am.Ytiobknkpdkkikaa
open Go Go.Am

theorem exoks_mem' : ∀ {ks : List Pf}, exoks ks = true → ∀ t ∈ ks, t.exok = true
  | [], _, t, h => by cases h
  | a :: r, h, t, ht => by
    simp only [exoks, Bool.and_eq_true] at h
    rcases List.mem_cons.1 ht with rfl | ht
    · exact h.1
    · exact exoks_mem' h.2 t ht
theorem exok_rules {k n : Int} {fs : List F} {ks : List Pf} (h : (Pf.mk k n fs ks).exok = true) :
    (k = 1 ∧ 0 ≤ n ∧ n ≤ 100 ∧ fs = [] ∧ ks = []) ∨ (k = 3 ∧ ∃ a x, fs = [a] ∧ ks = [x] ∧ a.tyok = true ∧ x.exok = true) ∨ (k = 2 ∧ ∃ x y, fs = [] ∧ ks = [x, y] ∧ x.exok = true ∧ y.exok = true) := by
  simp only [Pf.exok, Bool.and_eq_true, decide_eq_true_eq, Bool.or_eq_true] at h
  obtain ⟨h0, h1, h2, h3, h4, h5, h6, h7⟩ := h
  unfold eshape at h0 h1 h2
  by_cases k1 : k = 1
  · subst k1
    simp only [if_true] at h1 h2
    exact .inl ⟨rfl, h3, h4, List.length_eq_zero_iff.1 (by omega), List.length_eq_zero_iff.1 (by omega)⟩
  · by_cases k2 : k = 2
    · subst k2
      simp at h1 h2
      refine .inr (.inr ⟨rfl, ?_⟩)
      match fs, h1, ks, h2, h7 with
      | [], _, [x, y], _, h7 => exact ⟨x, y, rfl, rfl, exoks_mem' h7 x (by simp), exoks_mem' h7 y (by simp)⟩
    · by_cases k3 : k = 3
      · subst k3
        simp at h1 h2
        refine .inr (.inl ⟨rfl, ?_⟩)
        match fs, h1, h6, ks, h2, h7 with
        | [a], _, h6, [x], _, h7 => exact ⟨a, x, rfl, rfl, ftyoks_mem h6 a (by simp), exoks_mem' h7 x (by simp)⟩
      · rw [if_neg k1, if_neg k2, if_neg k3] at h0; exact absurd h0 (by decide)
/-- What the program answers where a variable may be unbound. -/
def rb7 {α : Type} (o : Option α) : Rz α := match o with | some f => .ok f | none => .stop 7 0
def Lev (ls : List Int) (d : Int) : Prop := (ls.length : Int) = d ∧ ∀ l ∈ ls, 0 ≤ l ∧ l < d
theorem Lev.snoc {ls : List Int} {d : Int} (h : Lev ls d) : Lev (ls ++ [d]) (d + 1) := by
  refine ⟨by simp; exact h.1, fun l hl => ?_⟩
  have h0 := h.1
  rcases List.mem_append.1 hl with q | q
  · have := h.2 l q; omega
  · rw [List.mem_singleton.1 q]; omega
theorem fsize_le {f : F} {b : Pf} {n : Int} {k : Int} : 1 + f.size + b.size = (Pf.mk k n [f] [b]).size := by simp only [Pf.size, fsizes, psizes]; omega

theorem lev_ev (x : Pf) : x.exok = true → ∀ (ls : List Int) (d : Int), Lev ls d → 0 ≤ d → 2 * d + x.size ≤ 180 →
    ∃ o : Option T, (∀ t, o = some t → T.nodes t ≤ 2 * x.size ∧ T.vok t = true) ∧ Ev fun n => i_levels_exprTerm n ls x d = some (rb7 o) ∧ s_l09Bound n x d = some o.isSome ∧ ∀ t, o = some t → s_l09Tree n x ls d = some t := by
  induction x using Pf.ind with
  | _ k n fs ks ih =>
    intro hok ls d hl hd hb
    have hlen := hl.1
    rcases exok_rules hok with ⟨rfl, hn0, hn1, rfl, rfl⟩ | ⟨rfl, f, b, rfl, rfl, hf, hbk⟩ | ⟨rfl, a, b, rfl, rfl, ha, hbk⟩
    · have hs1 : (Pf.mk 1 n [] []).size = 1 := by simp only [Pf.size, fsizes, psizes]
      rw [hs1] at hb ⊢
      by_cases hv : n < d
      · have w1 : IntKind.i64.wrap ((ls.length : Int) - 1) = d - 1 := by rw [hlen]; exact w64_eq (by omega) (by omega)
        have w2 : IntKind.i64.wrap (d - 1 - n) = d - 1 - n := w64_eq (by omega) (by omega)
        have hlt : (d - 1 - n).toNat < ls.length := by omega
        have hix : idx ls (d - 1 - n) = some (ls[(d - 1 - n).toNat]'hlt) := by
          unfold idx
          rw [if_pos (by omega), List.getElem?_eq_getElem hlt]
        obtain ⟨y, hy⟩ : ∃ y, y = ls[(d - 1 - n).toNat]'hlt := ⟨_, rfl⟩
        rw [← hy] at hix
        have hyr := hl.2 y (by rw [hy]; exact List.getElem_mem hlt)
        have w3 : IntKind.i64.wrap (d - 1) = d - 1 := w64_eq (by omega) (by omega)
        have w4 : IntKind.i64.wrap (d - 1 - y) = d - 1 - y := w64_eq (by omega) (by omega)
        refine ⟨some (T.mk 5 (d - 1 - y) ⟨#[]⟩ []), fun t ht => ?_, (Ev.of (p := fun _ => True) fun _ => trivial).up 0 fun m _ _ => ⟨?_, ?_, fun t ht => ?_⟩⟩
        · cases ht
          have : decide (d - 1 - y > 100) = false := decide_eq_false (by omega)
          exact ⟨by simp only [T.nodes, tnodes]; omega, by simp only [T.vok, tvoks, this]; rfl⟩
        · rw [i_levels_exprTerm, if_pos (show (Pf.mk 1 n [] []).kind = 1 from rfl), show (Pf.mk 1 n [] []).n = n from rfl, if_neg (by omega)]
          unfold i_levels_variable
          rw [w1, w2, hix, bind_some', bind_some', w3, w4]; rfl
        · rw [s_l09Bound, if_pos (show (Pf.mk 1 n [] []).kind = 1 from rfl)]
          show some (decide (n < d)) = _
          rw [decide_eq_true hv]; rfl
        · cases ht
          rw [s_l09Tree, if_pos (show (Pf.mk 1 n [] []).kind = 1 from rfl), show (Pf.mk 1 n [] []).n = n from rfl, w1, w2, hix, bind_some', w3, w4]
      · refine ⟨none, (fun t ht => by cases ht), (Ev.of (p := fun _ => True) fun _ => trivial).up 0 fun m _ _ => ⟨?_, ?_, fun t ht => by cases ht⟩⟩
        · rw [i_levels_exprTerm, if_pos (show (Pf.mk 1 n [] []).kind = 1 from rfl), show (Pf.mk 1 n [] []).n = n from rfl, if_pos (by omega)]; rfl
        · rw [s_l09Bound, if_pos (show (Pf.mk 1 n [] []).kind = 1 from rfl)]
          show some (decide (n < d)) = _
          rw [decide_eq_false hv]; rfl
    · have hsz : 1 + f.size + b.size = (Pf.mk 3 n [f] [b]).size := fsize_le
      have hfp := fsize_pos f
      have w1 : IntKind.i64.wrap (d + 1) = d + 1 := w64_eq (by omega) (by omega)
      obtain ⟨o, so, eo⟩ := ih b (by simp) hbk (ls ++ [d]) (d + 1) hl.snoc (by omega) (by omega)
      refine ⟨o.map fun t => T.mk 6 0 ⟨#[108, 97, 109]⟩ [F.ttree f, T.mk 4 0 ⟨#[]⟩ [t]], fun t ht => ?_, ((typeTree_ev f hf).and eo).up 2 fun m hm H => ?_⟩
      · obtain ⟨u, hu, rfl⟩ := Option.map_eq_some_iff.1 ht
        have h1 := so u hu
        have h2 := ttree_nodes f
        have h3 := ttree_vok f
        exact ⟨by simp only [T.nodes, tnodes]; omega, by simp only [T.vok, tvoks, h1.2, h3]; rfl⟩
      · obtain ⟨⟨q1, q2⟩, q3, q4, q5⟩ := H
        obtain ⟨m, rfl⟩ : ∃ k, m = k + 2 := ⟨m - 2, by omega⟩
        refine ⟨?_, ?_, fun t ht => ?_⟩
        · rw [i_levels_exprTerm, if_neg (show ¬ (Pf.mk 3 n [f] [b]).kind = 1 from (by decide : ¬ (3 : Int) = 1)), if_neg (show ¬ (Pf.mk 3 n [f] [b]).kind = 2 from (by decide : ¬ (3 : Int) = 2)), show idx (Pf.mk 3 n [f] [b]).forms 0 = some f from rfl, show idx (Pf.mk 3 n [f] [b]).kids 0 = some b from rfl, bind_some', bind_some', q2, bind_some']
          unfold i_levels_with
          rw [chk_of (by simp only [List.length_singleton]; omega), bind_some', w1, q3]
          cases o <;> rfl
        · rw [s_l09Bound, if_neg (show ¬ (Pf.mk 3 n [f] [b]).kind = 1 from (by decide : ¬ (3 : Int) = 1))]
          show s_l09Bound_L1 (s_l09Bound (m + 2)) (Pf.mk 3 n [f] [b]) (IntKind.i64.wrap (d + 1)) (m + 2) 0 = _
          rw [w1, s_l09Bound_L1, if_pos (show (0 : Int) < (((Pf.mk 3 n [f] [b]).kids.length : Nat) : Int) from (by decide : (0 : Int) < 1)), show idx (Pf.mk 3 n [f] [b]).kids 0 = some b from rfl, bind_some', q4, bind_some']
          cases o with
          | none => rfl
          | some u => rw [if_neg (show ¬ (!(some u).isSome) = true by simp)]; rfl
        · obtain ⟨u, hu, rfl⟩ := Option.map_eq_some_iff.1 ht
          rw [s_l09Tree, if_neg (show ¬ (Pf.mk 3 n [f] [b]).kind = 1 from (by decide : ¬ (3 : Int) = 1)), if_pos (show (Pf.mk 3 n [f] [b]).kind = 3 from rfl), show idx (Pf.mk 3 n [f] [b]).forms 0 = some f from rfl, show idx (Pf.mk 3 n [f] [b]).kids 0 = some b from rfl, bind_some', bind_some', q1, bind_some']
          unfold s_l09Place
          rw [chk_of (by simp only [List.length_nil]; omega), chk_of (by simp only [List.nil_append, List.length_singleton]; omega), bind_some', List.nil_append, w1, q5 u hu, bind_some']
    · have hsz : 1 + a.size + b.size = (Pf.mk 2 n [] [a, b]).size := by simp only [Pf.size, fsizes, psizes]; omega
      have hpa := psize_pos a
      have hpb := psize_pos b
      obtain ⟨oa, sa, ea⟩ := ih a (by simp) ha ls d hl hd (by omega)
      obtain ⟨ob, sb, eb⟩ := ih b (by simp) hbk ls d hl hd (by omega)
      refine ⟨oa.bind fun x => ob.map fun y => T.mk 6 0 ⟨#[97, 112, 112]⟩ [x, y], fun t ht => ?_, (ea.and eb).up 3 fun m hm H => ?_⟩
      · obtain ⟨x, hx, ht⟩ := Option.bind_eq_some_iff.1 ht
        obtain ⟨y, hy, rfl⟩ := Option.map_eq_some_iff.1 ht
        have h1 := sa x hx
        have h2 := sb y hy
        exact ⟨by simp only [T.nodes, tnodes]; omega, by simp only [T.vok, tvoks, h1.2, h2.2]; rfl⟩
      · obtain ⟨⟨q1, q2, q3⟩, q4, q5, q6⟩ := H
        obtain ⟨m, rfl⟩ : ∃ k, m = k + 3 := ⟨m - 3, by omega⟩
        refine ⟨?_, ?_, fun t ht => ?_⟩
        · rw [i_levels_exprTerm, if_neg (show ¬ (Pf.mk 2 n [] [a, b]).kind = 1 from (by decide : ¬ (2 : Int) = 1)), if_pos (show (Pf.mk 2 n [] [a, b]).kind = 2 from rfl), show idx (Pf.mk 2 n [] [a, b]).kids 0 = some a from rfl, show idx (Pf.mk 2 n [] [a, b]).kids 1 = some b from rfl, bind_some', bind_some', q1, q4]
          cases oa <;> cases ob <;> rfl
        · rw [s_l09Bound, if_neg (show ¬ (Pf.mk 2 n [] [a, b]).kind = 1 from (by decide : ¬ (2 : Int) = 1))]
          show s_l09Bound_L1 (s_l09Bound (m + 3)) (Pf.mk 2 n [] [a, b]) d (m + 3) 0 = _
          rw [s_l09Bound_L1, if_pos (show (0 : Int) < (((Pf.mk 2 n [] [a, b]).kids.length : Nat) : Int) from (by decide : (0 : Int) < 2)), show idx (Pf.mk 2 n [] [a, b]).kids 0 = some a from rfl, bind_some', q2, bind_some']
          cases oa with
          | none => rfl
          | some u =>
            rw [if_neg (show ¬ (!(some u).isSome) = true by simp), show IntKind.i64.wrap (0 + 1) = 1 from rfl, s_l09Bound_L1, if_pos (show (1 : Int) < (((Pf.mk 2 n [] [a, b]).kids.length : Nat) : Int) from (by decide : (1 : Int) < 2)), show idx (Pf.mk 2 n [] [a, b]).kids 1 = some b from rfl, bind_some', q5, bind_some']
            cases ob with
            | none => rfl
            | some v => rw [if_neg (show ¬ (!(some v).isSome) = true by simp)]; rfl
        · obtain ⟨x, hx, ht⟩ := Option.bind_eq_some_iff.1 ht
          obtain ⟨y, hy, rfl⟩ := Option.map_eq_some_iff.1 ht
          rw [s_l09Tree, if_neg (show ¬ (Pf.mk 2 n [] [a, b]).kind = 1 from (by decide : ¬ (2 : Int) = 1)), if_neg (show ¬ (Pf.mk 2 n [] [a, b]).kind = 3 from (by decide : ¬ (2 : Int) = 3)), show idx (Pf.mk 2 n [] [a, b]).kids 0 = some a from rfl, show idx (Pf.mk 2 n [] [a, b]).kids 1 = some b from rfl, bind_some', bind_some', q3 x hx, q6 y hy, bind_some', bind_some']

/-- The first levels. -/
def lv (k : Nat) : List Int := (List.range k).map fun (j : Nat) => (j : Int)
theorem lv_succ (k : Nat) : lv (k + 1) = lv k ++ [(k : Int)] := by unfold lv; rw [List.range_succ, List.map_append]; rfl
theorem lv_len (k : Nat) : (lv k).length = k := by unfold lv; simp
theorem lv_lev (k : Nat) : Lev (lv k) k := by
  refine ⟨by rw [lv_len], fun l hl => ?_⟩
  unfold lv at hl
  obtain ⟨j, hj, rfl⟩ := List.mem_map.1 hl
  have := List.mem_range.1 hj
  omega
theorem first_lp (K : Nat) (hK : K ≤ 1000) : ∀ (r a m : Nat), K = a + r → r < m → i_firstLevels_L1 K 1 0 m a (lv a) = some (lv K)
  | 0, a, m, e, hm => by
    obtain ⟨m, rfl⟩ : ∃ k, m = k + 1 := ⟨m - 1, by omega⟩
    rw [i_firstLevels_L1, if_neg (by omega), show a = K by omega]
  | r + 1, a, m, e, hm => by
    obtain ⟨m, rfl⟩ : ∃ k, m = k + 1 := ⟨m - 1, by omega⟩
    have hl := lv_len a
    have w1 : IntKind.i64.wrap (1 * (a : Int)) = a := by rw [Int.one_mul]; exact w64_eq (by omega) (by omega)
    have w2 : IntKind.i64.wrap (0 + (a : Int)) = a := by rw [Int.zero_add]; exact w64_eq (by omega) (by omega)
    have w3 : IntKind.i64.wrap ((a : Int) + 1) = ((a + 1 : Nat) : Int) := by rw [w64_eq (by omega) (by omega)]; push_cast; rfl
    rw [i_firstLevels_L1, if_pos (by omega), w1, w2, chk_of (by simp only [List.length_singleton]; omega), w3, ← lv_succ]
    exact first_lp K hK r (a + 1) m (by omega) (by omega)
theorem level_lp (K : Nat) (hK : K ≤ 1000) : ∀ (r a m : Nat), K = a + r → r < m → s_l09Level_L1 K 1 m a (lv a) = some (lv K)
  | 0, a, m, e, hm => by
    obtain ⟨m, rfl⟩ : ∃ k, m = k + 1 := ⟨m - 1, by omega⟩
    rw [s_l09Level_L1, if_neg (by omega), show a = K by omega]
  | r + 1, a, m, e, hm => by
    obtain ⟨m, rfl⟩ : ∃ k, m = k + 1 := ⟨m - 1, by omega⟩
    have hl := lv_len a
    have w1 : IntKind.i64.wrap ((a : Int) * 1) = a := by rw [Int.mul_one]; exact w64_eq (by omega) (by omega)
    have w3 : IntKind.i64.wrap ((a : Int) + 1) = ((a + 1 : Nat) : Int) := by rw [w64_eq (by omega) (by omega)]; push_cast; rfl
    rw [s_l09Level_L1, if_pos (by omega), w1, chk_of (by simp only [List.length_singleton]; omega), w3, ← lv_succ]
    exact level_lp K hK r (a + 1) m (by omega) (by omega)
theorem levels_ev (K : Nat) (hK : K ≤ 1000) : Ev fun n => i_firstLevels n K 1 0 = some (lv K) ∧ s_l09Level n K 1 = some (lv K) :=
  ⟨K + 1, fun n hn => ⟨first_lp K hK K 0 n (by omega) (by omega), level_lp K hK K 0 n (by omega) (by omega)⟩⟩

/-- A copy is the same. -/
theorem cloneAll_lp (rec : T → Option T) (l : List T) (hl : l.length ≤ 1048576) (H : ∀ y ∈ l, rec y = some y) :
    ∀ (r a : List T) (m : Nat), l = a ++ r → r.length < m → i_cloneAll_L1 rec l m a.length a = some l
  | [], a, m, e, hm => by
    obtain ⟨m, rfl⟩ : ∃ k, m = k + 1 := ⟨m - 1, by omega⟩
    subst e
    rw [i_cloneAll_L1, if_neg (lt_end a)]; simp
  | y :: r, a, m, e, hm => by
    obtain ⟨m, rfl⟩ : ∃ k, m = k + 1 := ⟨m - 1, by omega⟩
    have hy : y ∈ l := by rw [e]; simp
    have e1 : (a.length : Int) < (l.length : Int) := by rw [e]; exact lt_mid a y r
    have e2 : idx l (a.length : Int) = some y := by rw [e]; exact idx_mid a y r
    have hlen : a.length ≤ l.length := by rw [e]; simp
    rw [i_cloneAll_L1, if_pos e1, e2, bind_some', H y hy, bind_some', chk_of (by simp; omega)]
    rw [show IntKind.i64.wrap ((a.length : Int) + 1) = ((a ++ [y]).length : Int) from w64_mid a y r (by rw [← e]; omega)]
    exact cloneAll_lp rec l hl H r (a ++ [y]) m (by simp [e]) (by simpa using hm)
theorem tnodes_mem : ∀ {ks : List T} {t : T}, t ∈ ks → T.nodes t ≤ tnodes ks
  | a :: r, t, h => by
    simp only [tnodes]
    rcases List.mem_cons.1 h with rfl | h
    · omega
    · have := tnodes_mem h; omega
theorem clone_ev (t : T) : T.nodes t ≤ 1048576 → Ev fun n => i_clone n t = some t := by
  induction t using T.ind with
  | _ k n s ks ih =>
    intro hn
    simp only [T.nodes] at hn
    have hl := tnodes_len ks
    have hS : Ev fun fu => i_cloneAll fu ks = some ks := by
      refine (Ev.all fun t ht => ih t ht (by have := tnodes_mem ht; omega)).up (ks.length + 1) fun n hn H => ?_
      rw [i_cloneAll]
      exact cloneAll_lp _ ks (by omega) H ks [] n rfl (by omega)
    refine hS.up 0 fun fu _ H => ?_
    rw [i_clone, show (T.mk k n s ks).kids = ks from rfl, H, bind_some']; rfl

end Go.Am.Ytiobknkpdkkikaa
