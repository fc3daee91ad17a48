/- Plain laws: the law Pattern: a hole applied to the long form of a variable is a pattern, applied to it twice it is none. -/
import Derived.Test.YtaedacibojpfkaaDoorPsLong
import Derived.Test.YtaedacibojpfkaaDoorPdSimple
import Derived.Test.YtaedacibojpfkaaDoorPsTerm
import Derived.Test.YtaedacibojpfkaaDoorGwPattern
namespace Go.Am
open Go
theorem lams_out : ∀ (k : Nat) (x : T), lams (k + 1) x = .mk 4 0 ⟨#[]⟩ [lams k x]
  | 0, _ => rfl
  | k + 1, x => lams_out k (.mk 4 0 ⟨#[]⟩ [x])
mutual
/-- No hole in a tree. -/
def T.nh : T → Bool
  | .mk k _ _ ks => decide (k ≠ 7) && nhs ks
def nhs : List T → Bool
  | [] => true
  | t :: r => t.nh && nhs r
end
theorem nhs_mem : ∀ {ks : List T}, nhs ks = true → ∀ t ∈ ks, t.nh = true
  | _ :: _, h, t, ht => by
    simp only [nhs, Bool.and_eq_true] at h
    rcases List.mem_cons.1 ht with rfl | ht
    · exact h.1
    · exact nhs_mem h.2 t ht
theorem nhs_of : ∀ {ks : List T}, (∀ t ∈ ks, t.nh = true) → nhs ks = true
  | [], _ => rfl
  | t :: r, h => by simp only [nhs]; rw [h t (List.mem_cons_self ..), nhs_of fun t ht => h t (List.mem_cons_of_mem _ ht)]; rfl
end Go.Am
namespace Go.Am.YtaedacibojpfkaaDoor
open Go Go.Am

theorem tmoks_of : ∀ {ks : List T}, (∀ t ∈ ks, t.tmok = true) → tmoks ks = true
  | [], _ => rfl
  | t :: r, h => by simp only [tmoks]; rw [h t (List.mem_cons_self ..), tmoks_of fun t ht => h t (List.mem_cons_of_mem _ ht)]; rfl
theorem tm_lam {t : T} (h : t.tmok = true) : (T.mk 4 0 ⟨#[]⟩ [t]).tmok = true := by
  unfold T.tmok
  rw [if_pos rfl]
  simp [tmoks, h, eb]
theorem tm_var {k n : Int} (hk : k = 5 ∨ k = 7) (h0 : 0 ≤ n) (h1 : n ≤ 100) {ks : List T} (h : tmoks ks = true) : (T.mk k n ⟨#[]⟩ ks).tmok = true := by
  unfold T.tmok
  rw [if_neg (by omega), if_pos hk]
  simp [h, eb, h0, h1]

/-- What holds of the long form of a variable. -/
structure Lng (t : T) : Prop where
  ok : t.tmok = true
  sm : t.sm
  nh : t.nh = true

theorem lams_lng : ∀ (k : Nat) (x : T), Lng x → Lng (lams k x)
  | 0, _, h => h
  | k + 1, x, h => by
    refine lams_lng k _ ⟨tm_lam h.ok, ?_, ?_⟩
    · unfold T.sm
      exact ⟨by decide, by simp, fun t ht => by rw [List.mem_singleton.1 ht]; exact h.sm⟩
    · simp only [T.nh, nhs, h.nh]; decide

theorem long_lng (t : T) (h : t.simok = true) : ∀ B : Int, B + t.size ≤ 100 → t.size ≤ 50 → (∀ v, 0 ≤ v → v ≤ B → Lng (t.long v)) ∧ ∀ j, (t.ary : Int) - 1 ≤ j → j ≤ B → ∀ x ∈ t.lngs j, Lng x := by
  refine simok_ind (p := fun t => ∀ B : Int, B + t.size ≤ 100 → t.size ≤ 50 → (∀ v, 0 ≤ v → v ≤ B → Lng (t.long v)) ∧ ∀ j, (t.ary : Int) - 1 ≤ j → j ≤ B → ∀ x ∈ t.lngs j, Lng x) (fun n s a b ha' hb' ha hb B hB hs => ?_) (fun n s B hB hs => ?_) t h
  · have hsz : (T.mk 10 n s [a, b]).size = 1 + (a.size + (b.size + 0)) := by simp only [T.size, sizes]
    rw [hsz] at hs hB
    have hab := ary_size b hb'
    have hmem : ∀ C : Int, C + a.size ≤ 100 ∧ C + b.size ≤ 101 → ∀ j, ((T.mk 10 n s [a, b]).ary : Int) - 1 ≤ j → j ≤ C → ∀ x ∈ (T.mk 10 n s [a, b]).lngs j, Lng x := by
      intro C hC j h1 h2 x hx
      rw [ary_arr] at h1
      rw [lngs_arr] at hx
      rcases List.mem_cons.1 hx with rfl | hx
      · exact (ha j (by omega) (by omega)).1 j (by omega) (by omega)
      · exact (hb (j - 1) (by omega) (by omega)).2 _ (by omega) (by omega) x hx
    refine ⟨fun v h0 h1 => ?_, hmem B (by omega)⟩
    show Lng (lams _ (T.mk 5 _ ⟨#[]⟩ _))
    have hk := hmem (((T.mk 10 n s [a, b]).ary : Int) - 1) (by rw [ary_arr]; omega) _ (Int.le_refl _) (Int.le_refl _)
    refine lams_lng _ _ ⟨tm_var (.inl rfl) (by omega) (by rw [ary_arr]; omega) (tmoks_of fun t ht => (hk t ht).ok), ?_, ?_⟩
    · unfold T.sm
      refine ⟨by decide, ?_, fun t ht => (hk t ht).sm⟩
      rw [lngs_arr, List.length_cons, lngs_argf b hb', argf_len, tks_len b hb']
      omega
    · simp only [T.nh]; rw [nhs_of fun t ht => (hk t ht).nh]; decide
  · refine ⟨fun v h0 h1 => ?_, fun j _ _ x hx => ?_⟩
    · show Lng (lams _ (T.mk 5 _ ⟨#[]⟩ _))
      rw [lngs_no (by decide), ary_no (by decide)]
      refine lams_lng _ _ ⟨tm_var (.inl rfl) (by omega) (by omega) rfl, ?_, by simp [T.nh, nhs]⟩
      unfold T.sm
      exact ⟨by decide, by decide, fun t ht => by cases ht⟩
    · rw [lngs_no (by decide)] at hx; cases hx

theorem isame_lp (rec : T → T → Option Bool) (x : T) (hl : x.kids.length ≤ 1048576) (H : ∀ y ∈ x.kids, rec y y = some true) :
    ∀ (r a : List T) (m : Nat), x.kids = a ++ r → r.length < m → i_same_L1 rec x x m a.length = some true
  | [], a, m, e, hm => by
    obtain ⟨m, rfl⟩ : ∃ k, m = k + 1 := ⟨m - 1, by omega⟩
    rw [i_same_L1, e, if_neg (lt_end a)]
  | y :: r, a, m, e, hm => by
    obtain ⟨m, rfl⟩ : ∃ k, m = k + 1 := ⟨m - 1, by simp at hm; omega⟩
    have hlen : (a ++ y :: r).length ≤ 9223372036854775807 := by rw [← e]; omega
    rw [i_same_L1, e, if_pos (lt_mid a y r), idx_mid, bind_some', bind_some', H y (by rw [e]; simp), bind_some', if_neg (by decide), w64_mid a y r hlen]
    exact isame_lp rec x hl H r (a ++ [y]) m (by rw [e]; simp) (by simp at hm; omega)

theorem isame_ev (t : T) : t.sm → Ev fun n => i_same n t t = some true := by
  induction t using T.ind with
  | _ k n s ks ih =>
    intro hsm
    have hk := sm_kids hsm
    refine (Ev.all (p := fun y n => i_same n y y = some true) fun y hy => ih y hy (hk.2.2 y hy)).up (ks.length + 1) fun n hn h => ?_
    rw [i_same, if_neg (by simp), if_neg (by simp), if_neg (by simp), if_neg (by simp)]
    exact isame_lp (i_same n) (T.mk k _ s ks) hk.2.1 h ks [] n rfl (by omega)

theorem lv_lp (n : Nat) (X A : T) (v : Int) (ks : List T) (v0 : 0 ≤ v) (v1 : v ≤ 1000) (K : Nat) (hK : K ≤ 1000) (hL : i_longForm__nk n (T.mk 5 v ⟨#[]⟩ []) A = some X) (hS : i_same n X X = some true) :
    ∀ (k m i : Nat), i + k = K → k < m → i_longVariable_L1 n X A m (i : Int) (lams k (T.mk 5 (v + K) ⟨#[]⟩ ks)).kind (lams k (T.mk 5 (v + K) ⟨#[]⟩ ks)).n (lams k (T.mk 5 (v + K) ⟨#[]⟩ ks)).name (lams k (T.mk 5 (v + K) ⟨#[]⟩ ks)).kids = some (v, true)
  | 0, m, i, e, hm => by
    obtain ⟨m, rfl⟩ : ∃ k, m = k + 1 := ⟨m - 1, by omega⟩
    show i_longVariable_L1 n X A (m + 1) (i : Int) 5 (v + K) ⟨#[]⟩ ks = _
    have hw : IntKind.i64.wrap ((v + (K : Int)) - (i : Int)) = v := by rw [w64_eq (by omega) (by omega)]; omega
    rw [i_longVariable_L1, if_neg (by decide), if_neg (by decide), hw, if_neg (by omega), hL, bind_some', hS, bind_some', if_neg (by decide)]
  | k + 1, m, i, e, hm => by
    obtain ⟨m, rfl⟩ : ∃ k, m = k + 1 := ⟨m - 1, by omega⟩
    rw [lams_out]
    show i_longVariable_L1 n X A (m + 1) (i : Int) 4 0 ⟨#[]⟩ [lams k (T.mk 5 (v + K) ⟨#[]⟩ ks)] = _
    rw [i_longVariable_L1, if_pos rfl, show idx [lams k (T.mk 5 (v + (K : Int)) ⟨#[]⟩ ks)] 0 = some (lams k (T.mk 5 (v + K) ⟨#[]⟩ ks)) from rfl, bind_some', show IntKind.i64.wrap ((i : Int) + 1) = ((i + 1 : Nat) : Int) by rw [w64_eq (by omega) (by omega)]; omega]
    exact lv_lp n X A v ks v0 v1 K hK hL hS k m (i + 1) (by omega) (by omega)

theorem lv_eq {n : Nat} {A : T} (v : Int) (v0 : 0 ≤ v) (v1 : v ≤ 1000) (hs : A.ary ≤ 1000) (hn : A.ary < n) (hL : i_longForm__nk n (T.mk 5 v ⟨#[]⟩ []) A = some (A.long v)) (hS : i_same n (A.long v) (A.long v) = some true) : i_longVariable n (A.long v) A = some (v, true) := by
  unfold i_longVariable
  exact lv_lp n (A.long v) A v (A.lngs ((A.ary : Int) - 1)) v0 v1 A.ary hs hL hS A.ary n 0 (by omega) hn

theorem each_lp (rec : T → Int → List T → Option Bool) (x : T) (l : List T) (i : Int) (hl : x.kids.length ≤ 1048576) (H : ∀ y ∈ x.kids, ∀ d, rec y d l = some false) :
    ∀ (r a : List T) (m : Nat), x.kids = a ++ r → r.length < m → i_Tree_each__c_fn_i_patterns_c1v_L1 rec x i l m a.length = some false
  | [], a, m, e, hm => by
    obtain ⟨m, rfl⟩ : ∃ k, m = k + 1 := ⟨m - 1, by omega⟩
    rw [i_Tree_each__c_fn_i_patterns_c1v_L1, e, if_neg (lt_end a)]
  | y :: r, a, m, e, hm => by
    obtain ⟨m, rfl⟩ : ∃ k, m = k + 1 := ⟨m - 1, by simp at hm; omega⟩
    have hlen : (a ++ y :: r).length ≤ 9223372036854775807 := by rw [← e]; omega
    rw [i_Tree_each__c_fn_i_patterns_c1v_L1, e, if_pos (lt_mid a y r), idx_mid, bind_some', under_c, bind_some', H y (by rw [e]; simp), bind_some', if_neg (by decide), w64_mid a y r hlen]
    exact each_lp rec x l i hl H r (a ++ [y]) m (by rw [e]; simp) (by simp at hm; omega)

theorem each_ev (t : T) : t.sm → t.nh = true → Ev fun n => ∀ (l : List T) (d : Int), i_Tree_each__c_fn_i_patterns_c1v n t d l = some false := by
  induction t using T.ind with
  | _ k n s ks ih =>
    intro hsm hnh
    have hk := sm_kids hsm
    simp only [T.nh, Bool.and_eq_true, decide_eq_true_eq] at hnh
    refine (Ev.all (p := fun y n => ∀ (l : List T) (d : Int), i_Tree_each__c_fn_i_patterns_c1v n y d l = some false) fun y hy => ih y hy (hk.2.2 y hy) (nhs_mem hnh.2 y hy)).up (ks.length + 1) fun n hn h l d => ?_
    rw [i_Tree_each__c_fn_i_patterns_c1v]
    unfold i_patterns_c1__c
    rw [if_pos (show ((T.mk k _ s ks).kind != 7) = true by show (k != 7) = true; simpa using hnh.1), bind_some', if_neg (by decide)]
    exact each_lp (i_Tree_each__c_fn_i_patterns_c1v n) (T.mk k _ s ks) l d hk.2.1 (fun y hy d => h y hy l d) ks [] n rfl (by omega)

theorem implTermOK2_ev (t : T) (hsm : t.sm) : Ev fun n => i_TermOK n t = some (decide (t.size ≤ 150) && t.tmok) := by
  refine (implTerm_ev t hsm).mp fun n h => ?_
  obtain ⟨l', e, _⟩ := h 150 (by omega) (by omega)
  have e : i_looker_term n (150, false) t = _ := e
  unfold i_TermOK
  rw [e, bind_some', show decide (t.size ≤ 150) = decide ((t.size : Int) ≤ 150) from decide_eq_decide.2 (by omega)]

theorem long_eq_ev (v : Int) (t : T) (hsm : t.sm) (h : t.simok = true) (hs : t.size ≤ 50) (v0 : 0 ≤ v) (v1 : v ≤ 50) : Ev fun n => s_Long n v t = some (if bigB (t.long v) = true then (T.mk 0 0 ⟨#[]⟩ [], 11) else (t.long v, 0)) := by
  have hL := long_size t h
  have hl := (long_lng t h 50 (by omega) hs).1 v v0 v1
  refine ((specSimpleOK_ev t hsm).and ((long_ev t.size t (Nat.le_refl _) h (by omega)).and ((small_ev (t.long v) hl.sm).and (shigh_ev (t.long v) (by rw [hL]; omega))))).mp fun n ⟨a1, a3, a5, a6⟩ => ?_
  obtain ⟨_, a9⟩ := a3 v (by omega) (by omega)
  have hbig : s_l03Big n (t.long v) = some (bigB (t.long v)) := by
    unfold s_l03Big bigB
    rw [a5, a6, bind_some', bind_some', hL, decide_eq_true (show t.size ≤ 150 by omega), decide_eq_false (show ¬ t.size > 150 by omega)]; rfl
  unfold s_Long
  rw [a1, bind_some', h, decide_eq_true (show t.size ≤ 150 by omega), if_neg (by decide), if_neg (by omega), if_neg (by omega), a9, bind_some', hbig, bind_some']
  cases bigB (t.long v) <;> rfl

/-- One simple type, and right: the list is right. -/
theorem simples1_ev (b : T) (hsm : b.sm) (h : b.simok = true) (hs : b.size ≤ 150) : Ev fun n => i_simplesOK n [b] 20 = some true := by
  obtain ⟨N, hN⟩ := implSimpleOK_ev b hsm
  refine ⟨max N 3, fun n hn => ?_⟩
  have e : i_badSimple n b = some false := by
    unfold i_badSimple
    rw [hN n (by omega), bind_some', h, decide_eq_true hs]; rfl
  obtain ⟨m, rfl⟩ : ∃ k, n = k + 2 := ⟨n - 2, by omega⟩
  show i_simplesOK (m + 2) [b] 20 = some true
  unfold i_simplesOK g_ContainsFunc_Tree__fn_i_badSimple g_IndexFunc_Tree__fn_i_badSimple
  rw [if_pos (by simp), g_IndexFunc_Tree__fn_i_badSimple_L1, if_pos (by simp), show idx [b] 0 = some b from rfl, bind_some', e, bind_some', if_neg (by decide), show IntKind.i64.wrap (0 + 1) = 1 from rfl, g_IndexFunc_Tree__fn_i_badSimple_L1, if_neg (by simp)]
  rfl

theorem cont0 {m : Nat} (v : Int) : g_Contains_X (m + 1) [] v = some false := by
  unfold g_Contains_X g_Index_X
  rw [g_Index_X_L1, if_neg (by simp)]; rfl
theorem cont1 {m : Nat} (v : Int) : g_Contains_X (m + 1) [v] v = some true := by
  unfold g_Contains_X g_Index_X
  rw [g_Index_X_L1, if_pos (by simp), show idx [v] 0 = some v from rfl, bind_some', if_pos rfl]; rfl

theorem pattern1 {m : Nat} {a B e : T} {v : Int} (htk : i_takes (m + 2) B = some ([a], e)) (hlv : i_longVariable (m + 2) (a.long v) a = some (v, true)) : i_pattern__c (m + 2) [B] (T.mk 7 0 ⟨#[]⟩ [a.long v]) = some ([v], true) := by
  unfold i_pattern__c
  rw [if_neg (show ¬ ((T.mk 7 0 ⟨#[]⟩ [a.long v]).n ≥ (([B] : List T).length : Int)) by show ¬ ((0 : Int) ≥ _); simp)]
  show ((some B).bind fun y4 => (i_takes (m + 2) y4).bind _) = _
  rw [bind_some', htk, bind_some', if_neg (by simp [T.kids])]
  rw [i_pattern__c_L1, if_pos (by simp [T.kids])]
  show ((some (a.long v)).bind fun y26 => (some a).bind fun y31 => (i_longVariable (m + 2) y26 y31).bind _) = _
  rw [bind_some', bind_some', hlv, bind_some', if_neg (by simp)]
  show (g_Contains_X (m + 2) [] v).bind _ = _
  rw [cont0, bind_some', if_neg (by decide), chk_of (by simp), show IntKind.i64.wrap (0 + 1) = 1 from rfl, i_pattern__c_L1, if_neg (by simp [T.kids])]
  rfl

theorem pattern2 {m : Nat} {a B e : T} {v : Int} (htk : i_takes (m + 2) B = some ([a, a], e)) (hlv : i_longVariable (m + 2) (a.long v) a = some (v, true)) : i_pattern__c (m + 2) [B] (T.mk 7 0 ⟨#[]⟩ [a.long v, a.long v]) = some ([], false) := by
  unfold i_pattern__c
  rw [if_neg (show ¬ ((T.mk 7 0 ⟨#[]⟩ [a.long v, a.long v]).n ≥ (([B] : List T).length : Int)) by show ¬ ((0 : Int) ≥ _); simp)]
  show ((some B).bind fun y4 => (i_takes (m + 2) y4).bind _) = _
  rw [bind_some', htk, bind_some', if_neg (by simp [T.kids])]
  rw [i_pattern__c_L1, if_pos (by simp [T.kids])]
  show ((some (a.long v)).bind fun y26 => (some a).bind fun y31 => (i_longVariable (m + 2) y26 y31).bind _) = _
  rw [bind_some', bind_some', hlv, bind_some', if_neg (by simp)]
  show (g_Contains_X (m + 2) [] v).bind _ = _
  rw [cont0, bind_some', if_neg (by decide), chk_of (by simp), show IntKind.i64.wrap (0 + 1) = 1 from rfl, i_pattern__c_L1, if_pos (by simp [T.kids])]
  show ((some (a.long v)).bind fun y26 => (some a).bind fun y31 => (i_longVariable (m + 2) y26 y31).bind _) = _
  rw [bind_some', bind_some', hlv, bind_some', if_neg (by simp)]
  show (g_Contains_X (m + 2) [v] v).bind _ = _
  rw [cont1, bind_some', if_pos rfl]

theorem patOK {m : Nat} {B : T} {ks : List T} {r : List Int × Bool} (h1 : i_simplesOK (m + 1) [B] 20 = some true) (h2 : i_TermOK (m + 1) (T.mk 7 0 ⟨#[]⟩ ks) = some true) (h3 : i_pattern__c m [B] (T.mk 7 0 ⟨#[]⟩ ks) = some r)
    (hl : ks.length < m) (hl2 : ks.length ≤ 1000) (h4 : ∀ y ∈ ks, ∀ d, i_Tree_each__c_fn_i_patterns_c1v m y d [B] = some false) : i_PatternOK (m + 1) [B] (T.mk 7 0 ⟨#[]⟩ ks) = some r.2 := by
  unfold i_PatternOK
  rw [h1, bind_some', if_pos rfl, h2, bind_some', if_pos rfl]
  unfold i_patterns
  rw [i_Tree_each__c_fn_i_patterns_c1v]
  unfold i_patterns_c1__c
  rw [if_neg (show ¬ (((T.mk 7 0 ⟨#[]⟩ ks).kind != 7) = true) by simp [T.kind]), h3, bind_some', bind_some']
  cases hr : r.2 with
  | true =>
    rw [if_neg (by decide)]
    have q := each_lp (i_Tree_each__c_fn_i_patterns_c1v m) (T.mk 7 0 ⟨#[]⟩ ks) [B] 0 (by rw [tkids]; omega) h4 ks [] m rfl hl
    have q : i_Tree_each__c_fn_i_patterns_c1v_L1 (i_Tree_each__c_fn_i_patterns_c1v m) (T.mk 7 0 ⟨#[]⟩ ks) 0 [B] m 0 = _ := q
    rw [q]; rfl
  | false => rfl

theorem pat_ev (a : T) (h : a.simok = true) (hs : a.size ≤ 40) (hsm : a.sm) (v : Int) (v0 : 0 ≤ v) (v1 : v ≤ 50) :
    (Ev fun n => i_PatternOK n [T.mk 10 0 ⟨#[]⟩ [a, T.mk 9 0 ⟨#[111]⟩ []]] (T.mk 7 0 ⟨#[]⟩ [a.long v]) = some true) ∧
    (Ev fun n => i_PatternOK n [T.mk 10 0 ⟨#[]⟩ [a, T.mk 10 0 ⟨#[]⟩ [a, T.mk 9 0 ⟨#[111]⟩ []]]] (T.mk 7 0 ⟨#[]⟩ [a.long v, a.long v]) = some false) := by
  have hl := (long_lng a h 50 (by omega) (by omega)).1 v v0 v1
  have hL := long_size a h v
  have hary := ary_size a h
  have o_ok : (T.mk 9 0 ⟨#[111]⟩ []).simok = true := by decide
  have o_sm : (T.mk 9 0 ⟨#[111]⟩ []).sm := by unfold T.sm; exact ⟨by decide, by decide, fun t ht => by cases ht⟩
  have arr_ok : ∀ x y : T, x.simok = true → y.simok = true → (T.mk 10 0 ⟨#[]⟩ [x, y]).simok = true := fun x y hx hy => by unfold T.simok; rw [if_neg (by decide), if_pos rfl]; simp [simoks, hx, hy, eb]
  have arr_sm : ∀ x y : T, x.sm → y.sm → (T.mk 10 0 ⟨#[]⟩ [x, y]).sm := fun x y hx hy => by
    unfold T.sm
    refine ⟨by decide, by simp, fun t ht => ?_⟩
    simp only [List.mem_cons, List.not_mem_nil, or_false] at ht
    rcases ht with rfl | rfl
    · exact hx
    · exact hy
  have hole_sm : ∀ ks : List T, ks.length ≤ 2 → (∀ t ∈ ks, t = a.long v) → (T.mk 7 0 ⟨#[]⟩ ks).sm := fun ks h1 h2 => by
    unfold T.sm
    exact ⟨by decide, by omega, fun t ht => by rw [h2 t ht]; exact hl.sm⟩
  have hole_ok : ∀ ks : List T, (∀ t ∈ ks, t = a.long v) → (T.mk 7 0 ⟨#[]⟩ ks).tmok = true := fun ks h2 => tm_var (.inr rfl) (by decide) (by decide) (tmoks_of fun t ht => by rw [h2 t ht]; exact hl.ok)
  have B1ok := arr_ok a _ h o_ok
  have B2ok := arr_ok a _ h B1ok
  have B1sm := arr_sm a _ hsm o_sm
  have B2sm := arr_sm a _ hsm B1sm
  have B1s : (T.mk 10 0 ⟨#[]⟩ [a, T.mk 9 0 ⟨#[111]⟩ []]).size = a.size + 2 := by simp only [T.size, sizes]; omega
  have B2s : (T.mk 10 0 ⟨#[]⟩ [a, T.mk 10 0 ⟨#[]⟩ [a, T.mk 9 0 ⟨#[111]⟩ []]]).size = 2 * a.size + 3 := by simp only [T.size, sizes]; omega
  have H1s : (T.mk 7 0 ⟨#[]⟩ [a.long v]).size = a.size + 1 := by simp only [T.size, sizes, hL]; omega
  have H2s : (T.mk 7 0 ⟨#[]⟩ [a.long v, a.long v]).size = 2 * a.size + 1 := by simp only [T.size, sizes, hL]; omega
  have h1m : ∀ t ∈ [a.long v], t = a.long v := fun t ht => List.mem_singleton.1 ht
  have h2m : ∀ t ∈ [a.long v, a.long v], t = a.long v := fun t ht => by
    simp only [List.mem_cons, List.not_mem_nil, or_false] at ht
    rcases ht with rfl | rfl <;> rfl
  have base := ((long_ev a.size a (Nat.le_refl _) h (by omega)).and (isame_ev (a.long v) hl.sm))
  have hsB : ∀ B : T, B.simok = true → B.size ≤ 100 → ∀ tk, B.tks = tk → ∀ m, B.size ≤ m → ∃ e, i_takes m B = some (tk, e) := fun B h1 h2 tk h3 m hm => by
    obtain ⟨e, he⟩ := takes_eq B h1 (by omega) m hm
    exact ⟨e, by rw [he, h3]⟩
  have t1 : (T.mk 10 0 ⟨#[]⟩ [a, T.mk 9 0 ⟨#[111]⟩ []]).tks = [a] := by rw [tks_arr, tks_no (by decide)]
  have t2 : (T.mk 10 0 ⟨#[]⟩ [a, T.mk 10 0 ⟨#[]⟩ [a, T.mk 9 0 ⟨#[111]⟩ []]]).tks = [a, a] := by rw [tks_arr, tks_arr, tks_no (by decide)]
  constructor
  · obtain ⟨N, hN⟩ := (simples1_ev _ B1sm B1ok (by rw [B1s]; omega)).and ((implTermOK2_ev _ (hole_sm _ (by simp) h1m)).and (base.and (each_ev (a.long v) hl.sm hl.nh)))
    refine ⟨max N 1000 + 3, fun n hn => ?_⟩
    obtain ⟨m, rfl⟩ : ∃ m, n = m + 3 := ⟨n - 3, by omega⟩
    obtain ⟨q1, q2, _, _⟩ := hN (m + 3) (by omega)
    obtain ⟨_, _, ⟨q3, q4⟩, q5⟩ := hN (m + 2) (by omega)
    obtain ⟨e, he⟩ := hsB _ B1ok (by rw [B1s]; omega) _ t1 (m + 2) (by rw [B1s]; omega)
    have hp := pattern1 he (lv_eq v v0 (by omega) (by omega) (by omega) (q3 v v0 (by omega)).1 q4)
    exact patOK q1 (by rw [q2, hole_ok _ h1m, H1s, decide_eq_true (by omega)]; rfl) hp (by simp) (by simp) (fun y hy d => by rw [h1m y hy]; exact q5 _ d)
  · obtain ⟨N, hN⟩ := (simples1_ev _ B2sm B2ok (by rw [B2s]; omega)).and ((implTermOK2_ev _ (hole_sm _ (by simp) h2m)).and (base.and (each_ev (a.long v) hl.sm hl.nh)))
    refine ⟨max N 1000 + 3, fun n hn => ?_⟩
    obtain ⟨m, rfl⟩ : ∃ m, n = m + 3 := ⟨n - 3, by omega⟩
    obtain ⟨q1, q2, _, _⟩ := hN (m + 3) (by omega)
    obtain ⟨_, _, ⟨q3, q4⟩, q5⟩ := hN (m + 2) (by omega)
    obtain ⟨e, he⟩ := hsB _ B2ok (by rw [B2s]; omega) _ t2 (m + 2) (by rw [B2s]; omega)
    have hp := pattern2 he (lv_eq v v0 (by omega) (by omega) (by omega) (q3 v v0 (by omega)).1 q4)
    exact patOK q1 (by rw [q2, hole_ok _ h2m, H2s, decide_eq_true (by omega)]; rfl) hp (by simp; omega) (by simp) (fun y hy d => by rw [h2m y hy]; exact q5 _ d)

theorem simok_sm (t : T) (h : t.simok = true) : t.sm := by
  induction t using T.ind with
  | _ k n s ks ih =>
    simp only [T.simok] at h
    have nmz : ∀ {s : ByteArray}, nm s = true → s.size ≤ 40 := fun {s} h => by
      obtain ⟨⟨l⟩⟩ := s
      unfold nm at h
      cases l with
      | nil => exact Nat.zero_le _
      | cons a r =>
        have h' : nameB (a :: r) = true := h
        rw [nameB_cons] at h'
        simp only [Bool.and_eq_true, decide_eq_true_eq] at h'
        exact h'.1.1
    have ebz : ∀ {s : ByteArray}, eb s = true → s.size ≤ 40 := fun {s} h => by
      obtain ⟨⟨l⟩⟩ := s
      unfold eb at h
      have : (⟨⟨l⟩⟩ : ByteArray).toList = (⟨#[]⟩ : ByteArray).toList := by simpa using h
      have e : l = [] := by
        have := congrArg List.length this
        simp at this
        first | exact this | simpa using this
      subst e
      exact Nat.zero_le _
    by_cases h9 : k = 9
    · rw [if_pos h9] at h
      simp only [Bool.and_eq_true, decide_eq_true_eq] at h
      have e : ks = [] := List.length_eq_zero_iff.1 h.2.2
      subst e
      unfold T.sm
      exact ⟨by have := nmz h.2.1; omega, by simp, fun t ht => by cases ht⟩
    · rw [if_neg h9] at h
      by_cases h10 : k = 10
      · rw [if_pos h10] at h
        simp only [Bool.and_eq_true, decide_eq_true_eq] at h
        have hm : ∀ l : List T, simoks l = true → ∀ t ∈ l, t.simok = true := by
          intro l
          induction l with
          | nil => intro _ t ht; cases ht
          | cons u r ihl =>
            intro h t ht
            simp only [simoks, Bool.and_eq_true] at h
            rcases List.mem_cons.1 ht with rfl | ht
            · exact h.1
            · exact ihl h.2 t ht
        unfold T.sm
        exact ⟨by have := ebz h.2.1; omega, by omega, fun t ht => ih t ht (hm ks h.2.2.2 t ht)⟩
      · rw [if_neg h10] at h; cases h

theorem at_eq (l : List Int) (hl : l.length ≤ 1048576) (hb : ∀ b ∈ l, 0 ≤ b ∧ b ≤ 255) {n : Int} (h1 : 1 < n) (h2 : n ≤ 1000) : ∃ r, w_at l 0 n = some r ∧ 0 ≤ r ∧ r < n := by
  unfold w_at
  rw [if_neg (by omega)]
  by_cases h0 : ((l).length : Int) = 0
  · rw [if_pos h0, chk_of (by omega)]
    have q := tmod_lt (a := IntKind.i64.wrap (0 * 7)) (b := n) (by rw [w64_eq (by omega) (by omega)]; omega) (by omega)
    exact ⟨_, rfl, q⟩
  · rw [if_neg h0, chk_of h0]
    have m0 := tmod_lt (a := (0 : Int)) (b := (l.length : Int)) (by omega) (by omega)
    obtain ⟨y, hy, hi⟩ := idx_get m0.1 m0.2
    rw [hi, bind_some', chk_of h0]
    have m1 := tmod_lt (a := IntKind.i64.wrap (0 + 1)) (b := (l.length : Int)) (by rw [w64_eq (by omega) (by omega)]; omega) (by omega)
    obtain ⟨x, hx, hi2⟩ := idx_get m1.1 m1.2
    rw [hi2, bind_some', chk_of h0, chk_of (show n ≠ 0 by omega)]
    obtain ⟨y0, y1⟩ := hb y hy
    obtain ⟨x0, x1⟩ := hb x hx
    have hz : Int.tdiv 0 (l.length : Int) = 0 := Int.zero_tdiv _
    have q := tmod_lt (a := IntKind.i64.wrap ((IntKind.i64.wrap ((IntKind.i64.wrap ((IntKind.i64.wrap y) * 31)) + (IntKind.i64.wrap x))) + (IntKind.i64.wrap (Int.tdiv 0 ((l).length : Int))))) (b := n) (by
      rw [hz, w64_eq (x := y) (by omega) (by omega), w64_eq (x := x) (by omega) (by omega), w64_eq (x := y * 31) (by omega) (by omega), w64_eq (x := y * 31 + x) (by omega) (by omega), w64_eq (x := (0 : Int)) (by omega) (by omega), w64_eq (by omega) (by omega)]; omega) (by omega)
    exact ⟨_, rfl, q⟩

theorem lawPattern_ev (l1 l2 : List Int) (h1 : ∀ b ∈ l1, 0 ≤ b ∧ b ≤ 255) (h2 : ∀ b ∈ l2, 0 ≤ b ∧ b ≤ 255) : Ev fun n => w_FnPattern n l1 l2 = some true := by
  by_cases b1 : ((l1).length : Int) > 1048576
  · refine .of fun n => ?_
    unfold w_FnPattern; rw [if_pos b1]
  by_cases b2 : ((l2).length : Int) > 1048576
  · refine .of fun n => ?_
    unfold w_FnPattern; rw [if_neg b1, if_pos b2]
  obtain ⟨a, e1, ha⟩ := simpleOf_dr (l := l1) ⟨by omega, h1⟩
  obtain ⟨v, e2, v0, v1⟩ := at_eq l2 (by omega) h2 (n := 3) (by omega) (by omega)
  have hsz : a.size ≤ 15 := ha.sz
  have hsm := simok_sm a ha.ok
  have e3 := long_eq_ev v a hsm ha.ok (by omega) v0 (by omega)
  obtain ⟨e4, e5⟩ := pat_ev a ha.ok (by omega) hsm v v0 (by omega)
  refine (e1.and (e3.and (e4.and e5))).mp fun n ⟨q1, q3, q4, q5⟩ => ?_
  unfold w_FnPattern
  rw [if_neg b1, if_neg b2, q1, bind_some', e2, bind_some', q3, bind_some']
  cases hb : bigB (a.long v) with
  | true => rfl
  | false =>
    rw [if_neg (by simp), if_neg (by decide)]
    show (i_PatternOK n [T.mk 10 0 ⟨#[]⟩ [a, T.mk 9 0 ⟨#[111]⟩ []]] (T.mk 7 0 ⟨#[]⟩ [a.long v])).bind _ = _
    rw [q4, bind_some', if_pos rfl]
    show (i_PatternOK n [T.mk 10 0 ⟨#[]⟩ [a, T.mk 10 0 ⟨#[]⟩ [a, T.mk 9 0 ⟨#[111]⟩ []]]] (T.mk 7 0 ⟨#[]⟩ [a.long v, a.long v])).bind _ = _
    rw [q5]; rfl

theorem lawFnPattern_ok (l1 l2 : List Int) (h1 : ∀ b ∈ l1, 0 ≤ b ∧ b ≤ 255) (h2 : ∀ b ∈ l2, 0 ≤ b ∧ b ≤ 255) :
    ∀ tk, 2 ≤ tk → ACalls Go.Proofs.Tryd.prog 5 [.imm 0 1 false (l1.map fun n => [.int .u8 n]), .imm 0 1 false (l2.map fun n => [.int .u8 n])] (fun _ => none) tk (RetX (fun _ => none) tk (fun v _ => v = .bool true)) := by
  intro tk _
  obtain ⟨n, hn⟩ := (lawPattern_ev l1 l2 h1 h2).get
  exact w_FnPattern_ok n 0 false l1 0 false l2 hn _ _

end Go.Am.YtaedacibojpfkaaDoor
