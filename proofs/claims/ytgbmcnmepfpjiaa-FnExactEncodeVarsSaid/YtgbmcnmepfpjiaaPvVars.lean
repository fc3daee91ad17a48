/- Plain laws: the law of EncodeVars. -/
import Derived.Test.YtgbmcnmepfpjiaaPvTTree
import Derived.Test.YtgbmcnmepfpjiaaPuB
import Derived.Test.YtgbmcnmepfpjiaaMwVars
namespace Go.Am.Ytgbmcnmepfpjiaa
open Go Go.Am

/-- The family that says of which type a term is. -/
def oft (t : T) : T := T.mk 3 0 ⟨#[111, 102]⟩ [T.mk 5 0 ⟨#[]⟩ [], t]
theorem oft_nodes (t : T) : T.nodes (oft t) = 2 + T.nodes t := by unfold oft; simp only [T.nodes, tnodes]; omega
theorem oft_vok {t : T} (h : T.vok t = true) : T.vok (oft t) = true := by unfold oft; simp only [T.vok, tvoks, h]; rfl
def tmT : T := T.mk 3 0 ⟨#[116, 109]⟩ []
def vts : List F → List T
  | [] => []
  | f :: r => tmT :: oft (F.ttree f) :: vts r
theorem vts_app : ∀ a b : List F, vts (a ++ b) = vts a ++ vts b
  | [], b => rfl
  | f :: r, b => by simp only [List.cons_append, vts, vts_app r b]
theorem vts_len : ∀ a : List F, (vts a).length = 2 * a.length
  | [] => rfl
  | f :: r => by simp only [vts, List.length_cons, vts_len r]; omega
theorem vts_mem : ∀ {a : List F}, ∀ y ∈ vts a, y = tmT ∨ ∃ f ∈ a, y = oft (F.ttree f)
  | [], y, h => by cases h
  | f :: r, y, h => by
    simp only [vts, List.mem_cons] at h
    rcases h with h | h | h
    · exact .inl h
    · exact .inr ⟨f, List.mem_cons_self .., h⟩
    · rcases vts_mem y h with h | ⟨g, hg, h⟩
      · exact .inl h
      · exact .inr ⟨g, List.mem_cons_of_mem _ hg, h⟩

def vgood (f : F) : Bool := decide (f.size ≤ 150) && f.tyok
def vbig (f : F) : Bool := decide (¬ T.nodes (oft (F.ttree f)) ≤ 150)

theorem var_fits {f : F} (h : f.size ≤ 150) : T.fits (oft (F.ttree f)) := nodes_fits _ (by have := ttree_nodes f; have := oft_nodes (F.ttree f); omega)
theorem var_vok (f : F) : T.vok (oft (F.ttree f)) = true := oft_vok (ttree_vok f)
theorem var_nodes {f : F} (h : vgood f = true) : T.nodes (oft (F.ttree f)) ≤ 152 := by
  simp only [vgood, Bool.and_eq_true, decide_eq_true_eq] at h
  have := ttree_nodes f; have := oft_nodes (F.ttree f); omega

/-! The reference. -/
theorem specVars_loop (n : Nat) (l : List F) (hl : l.length ≤ 4096) (H : ∀ y ∈ l, s_TypeOK n y = some (vgood y)) :
    ∀ (r a : List F) (m : Nat), l = a ++ r → r.length < m → s_l09Ctx_L1 n l m a.length = some (r.all vgood)
  | [], a, m, e, hm => by
    obtain ⟨m, rfl⟩ : ∃ k, m = k + 1 := ⟨m - 1, by omega⟩
    rw [s_l09Ctx_L1, e, if_neg (lt_end a)]; rfl
  | y :: r, a, m, e, hm => by
    obtain ⟨m, rfl⟩ : ∃ k, m = k + 1 := ⟨m - 1, by omega⟩
    have e1 : (a.length : Int) < (l.length : Int) := by rw [e]; exact lt_mid a y r
    have e2 : idx l (a.length : Int) = some y := by rw [e]; exact idx_mid a y r
    have hy : y ∈ l := by rw [e]; simp
    have hw : IntKind.i64.wrap ((a.length : Int) + 1) = ((a ++ [y]).length : Int) := w64_mid a y r (by rw [← e]; omega)
    rw [s_l09Ctx_L1, if_pos e1, e2, bind_some', H y hy, bind_some', hw, List.all_cons]
    cases hg : vgood y with
    | false => rfl
    | true =>
      rw [if_neg (by decide), specVars_loop n l hl H r (a ++ [y]) m (by simp [e]) (by simpa using hm), Bool.true_and]

theorem specEnc_loop (n : Nat) (l : List F) (hl : l.length ≤ 4096) (H : ∀ y ∈ l, s_l09TypeTree n y = some (F.ttree y) ∧ s_l03Big n (oft (F.ttree y)) = some (vbig y)) :
    ∀ (r a : List F) (m : Nat), l = a ++ r → r.length < m → s_EncodeVars_L1 n l m a.length (vts a) = some (if r.any vbig then ([], 11) else (vts l, 0))
  | [], a, m, e, hm => by
    obtain ⟨m, rfl⟩ : ∃ k, m = k + 1 := ⟨m - 1, by omega⟩
    rw [s_EncodeVars_L1, e, if_neg (lt_end a), List.append_nil]; rfl
  | y :: r, a, m, e, hm => by
    obtain ⟨m, rfl⟩ : ∃ k, m = k + 1 := ⟨m - 1, by omega⟩
    have e1 : (a.length : Int) < (l.length : Int) := by rw [e]; exact lt_mid a y r
    have e2 : idx l (a.length : Int) = some y := by rw [e]; exact idx_mid a y r
    have hy : y ∈ l := by rw [e]; simp
    have hw : IntKind.i64.wrap ((a.length : Int) + 1) = ((a ++ [y]).length : Int) := w64_mid a y r (by rw [← e]; omega)
    have hb : s_l03Big n (T.mk 3 0 ⟨#[111, 102]⟩ [T.mk 5 0 ⟨#[]⟩ [], F.ttree y]) = some (vbig y) := (H y hy).2
    rw [s_EncodeVars_L1, if_pos e1, e2, bind_some', (H y hy).1, bind_some', hb, bind_some', hw, List.any_cons]
    cases hg : vbig y with
    | true => rfl
    | false =>
      have hlen : a.length < l.length := by rw [e]; simp
      rw [if_neg (by decide), chk_of (by simp [vts_len]; omega), Bool.false_or]
      have := specEnc_loop n l hl H r (a ++ [y]) m (by simp [e]) (by simpa using hm)
      rw [vts_app] at this
      exact this

/-! The program. -/
theorem idxBad_loop (n : Nat) (l : List F) (hl : l.length ≤ 4096) (H : ∀ y ∈ l, i_TypeOK n y = some (vgood y)) :
    ∀ (r a : List F) (m : Nat), l = a ++ r → r.length < m → ∃ i, g_IndexFunc_Type__fn_i_typesOK_c1_L1 n l m a.length = some i ∧ (decide (i ≥ 0)) = !(r.all vgood)
  | [], a, m, e, hm => by
    obtain ⟨m, rfl⟩ : ∃ k, m = k + 1 := ⟨m - 1, by omega⟩
    rw [g_IndexFunc_Type__fn_i_typesOK_c1_L1, e, if_neg (lt_end a)]; exact ⟨_, rfl, rfl⟩
  | y :: r, a, m, e, hm => by
    obtain ⟨m, rfl⟩ : ∃ k, m = k + 1 := ⟨m - 1, by omega⟩
    have e1 : (a.length : Int) < (l.length : Int) := by rw [e]; exact lt_mid a y r
    have e2 : idx l (a.length : Int) = some y := by rw [e]; exact idx_mid a y r
    have hy : y ∈ l := by rw [e]; simp
    have hw : IntKind.i64.wrap ((a.length : Int) + 1) = ((a ++ [y]).length : Int) := w64_mid a y r (by rw [← e]; omega)
    have hbf : i_typesOK_c1 n y = some (!(vgood y)) := by unfold i_typesOK_c1; rw [H y hy, bind_some']
    rw [g_IndexFunc_Type__fn_i_typesOK_c1_L1, if_pos e1, e2, bind_some', hbf, bind_some', hw, List.all_cons]
    cases hg : vgood y with
    | false => exact ⟨_, rfl, by simp⟩
    | true =>
      rw [if_neg (by decide), Bool.true_and]
      exact idxBad_loop n l hl H r (a ++ [y]) m (by simp [e]) (by simpa using hm)

theorem idxBig_loop (n : Nat) (l : List T) (hl : l.length ≤ 4096) (b : T → Bool) (H : ∀ y ∈ l, i_tooBig n y = some (b y)) :
    ∀ (r a : List T) (m : Nat), l = a ++ r → r.length < m → ∃ i, g_IndexFunc_Tree__fn_i_tooBig_L1 n l m a.length = some i ∧ (decide (i ≥ 0)) = r.any b
  | [], a, m, e, hm => by
    obtain ⟨m, rfl⟩ : ∃ k, m = k + 1 := ⟨m - 1, by omega⟩
    rw [g_IndexFunc_Tree__fn_i_tooBig_L1, e, if_neg (lt_end a)]; exact ⟨_, rfl, rfl⟩
  | y :: r, a, m, e, hm => by
    obtain ⟨m, rfl⟩ : ∃ k, m = k + 1 := ⟨m - 1, by omega⟩
    have e1 : (a.length : Int) < (l.length : Int) := by rw [e]; exact lt_mid a y r
    have e2 : idx l (a.length : Int) = some y := by rw [e]; exact idx_mid a y r
    have hy : y ∈ l := by rw [e]; simp
    have hw : IntKind.i64.wrap ((a.length : Int) + 1) = ((a ++ [y]).length : Int) := w64_mid a y r (by rw [← e]; omega)
    rw [g_IndexFunc_Tree__fn_i_tooBig_L1, if_pos e1, e2, bind_some', H y hy, bind_some', hw, List.any_cons]
    cases hg : b y with
    | true => exact ⟨_, rfl, by simp⟩
    | false =>
      rw [if_neg (by decide), Bool.false_or]
      exact idxBig_loop n l hl b H r (a ++ [y]) m (by simp [e]) (by simpa using hm)

theorem implEnc_loop (n : Nat) (l : List F) (hl : l.length ≤ 2048) (hn : 2 * l.length < n) (htm : i_tooBig n tmT = some (decide (¬ T.nodes tmT ≤ 150))) (H : ∀ y ∈ l, i_typeTerm n y = some (F.ttree y) ∧ i_tooBig n (oft (F.ttree y)) = some (vbig y)) :
    ∀ (r a : List F) (m : Nat), l = a ++ r → r.length < m → i_EncodeVars_L1 n l m a.length (vts a) = some (if l.any vbig then ([], 11) else (vts l, 0))
  | [], a, m, e, hm => by
    obtain ⟨m, rfl⟩ : ∃ k, m = k + 1 := ⟨m - 1, by omega⟩
    rw [List.append_nil] at e
    subst e
    have hany : ∀ r : List F, (vts r).any (fun t => decide (¬ T.nodes t ≤ 150)) = r.any vbig := by
      intro r
      induction r with
      | nil => rfl
      | cons f r ih => simp only [vts, List.any_cons, ih]; rfl
    obtain ⟨i, hi, hd⟩ := idxBig_loop n (vts l) (by rw [vts_len]; omega) (fun t => decide (¬ T.nodes t ≤ 150)) (fun y hy => by
      rcases vts_mem y hy with rfl | ⟨f, hf, rfl⟩
      · exact htm
      · exact (H f hf).2) (vts l) [] n rfl (by rw [vts_len]; omega)
    have hi' : g_IndexFunc_Tree__fn_i_tooBig_L1 n (vts l) n 0 = some i := hi
    have hany := hany l
    rw [i_EncodeVars_L1, if_neg (by omega)]
    unfold g_ContainsFunc_Tree__fn_i_tooBig g_IndexFunc_Tree__fn_i_tooBig
    rw [hi', bind_some', bind_some', hd, hany]
    cases l.any vbig <;> rfl
  | y :: r, a, m, e, hm => by
    obtain ⟨m, rfl⟩ : ∃ k, m = k + 1 := ⟨m - 1, by omega⟩
    have e1 : (a.length : Int) < (l.length : Int) := by rw [e]; exact lt_mid a y r
    have e2 : idx l (a.length : Int) = some y := by rw [e]; exact idx_mid a y r
    have hy : y ∈ l := by rw [e]; simp
    have hw : IntKind.i64.wrap ((a.length : Int) + 1) = ((a ++ [y]).length : Int) := w64_mid a y r (by rw [← e]; omega)
    have hlen : a.length < l.length := by rw [e]; simp
    rw [i_EncodeVars_L1, if_pos e1, e2, bind_some', (H y hy).1, bind_some', hw, chk_of (by simp [vts_len]; omega)]
    have := implEnc_loop n l hl hn htm H r (a ++ [y]) m (by simp [e]) (by simpa using hm)
    rw [vts_app] at this
    exact this

/-- What EncodeVars answers. -/
def vtrees (l : List F) : List T × Int :=
  if 4096 < l.length then ([], 2) else if decide (l.length ≤ 12) && l.all vgood then (if l.any vbig then ([], 11) else (vts l, 0)) else ([], 1)

theorem longLists_ev (l : List F) : Ev fun n => i_longLists n [(l.length : Int)] = some (decide (4096 < l.length)) := by
  refine ⟨2, fun n hn => ?_⟩
  obtain ⟨n, rfl⟩ : ∃ q, n = q + 2 := ⟨n - 2, by omega⟩
  unfold i_longLists g_Max_X
  rw [if_neg (by simp), show idx [(l.length : Int)] 0 = some (l.length : Int) from rfl, bind_some', g_Max_X_L1, if_neg (by simp), bind_some']
  congr 1
  exact decide_eq_decide.2 (by omega)

theorem encodeVars_ev (l : List F) (hsm : ∀ t ∈ l, t.sm) : Ev fun n => s_EncodeVars n l = some (vtrees l) ∧ i_EncodeVars n l = some (vtrees l) := by
  by_cases hl : 4096 < l.length
  · refine (longLists_ev l).mp fun n h => ?_
    have he : vtrees l = ([], 2) := if_pos hl
    rw [he]
    constructor
    · unfold s_EncodeVars; rw [if_pos (by omega)]
    · unfold i_EncodeVars; rw [h, bind_some', if_pos (by simpa using hl)]
  · have hl' : l.length ≤ 4096 := by omega
    have H1 : Ev fun n => ∀ y ∈ l, s_TypeOK n y = some (vgood y) := Ev.all fun y hy => specTypeOK_ev y (hsm y hy)
    have H2 : Ev fun n => ∀ y ∈ l, i_TypeOK n y = some (vgood y) := Ev.all fun y _ => implTypeOK_ev y
    by_cases hok : (decide (l.length ≤ 12) && l.all vgood) = true
    · have hok2 := hok
      simp only [Bool.and_eq_true, decide_eq_true_eq] at hok2
      have hg : ∀ y ∈ l, y.size ≤ 150 ∧ y.tyok = true := fun y hy => by
        have := List.all_eq_true.1 hok2.2 y hy
        simpa only [vgood, Bool.and_eq_true, decide_eq_true_eq] using this
      have H3 : Ev fun n => ∀ y ∈ l, s_l09TypeTree n y = some (F.ttree y) ∧ i_typeTerm n y = some (F.ttree y) := Ev.all fun y hy => typeTree_ev y (hg y hy).2
      have H4 : Ev fun n => ∀ y ∈ l, i_tooBig n (oft (F.ttree y)) = some (vbig y) := Ev.all fun y hy => tooBig_ev _ (var_vok y) (var_fits (hg y hy).1)
      have H6 := tooBig_ev tmT rfl (nodes_fits tmT (by decide))
      have H5 : Ev fun n => ∀ y ∈ l, s_l03Big n (oft (F.ttree y)) = some (vbig y) := Ev.all fun y hy => bigS_ev _ (var_vok y) (var_fits (hg y hy).1)
      refine (H1.and (H2.and (H3.and (H4.and (H5.and ((longLists_ev l).and H6)))))).at (2 * l.length + 1) fun n hn h => ?_
      obtain ⟨h1, h2, h3, h4, h5, h6, h7⟩ := h
      have he : vtrees l = (if l.any vbig then ([], 11) else (vts l, 0)) := by unfold vtrees; rw [if_neg hl, if_pos hok]
      rw [he]
      constructor
      · unfold s_EncodeVars s_l09Ctx
        have e1 := specVars_loop n l hl' h1 l [] n rfl (by omega)
        have e1 : s_l09Ctx_L1 n l n 0 = some (l.all vgood) := e1
        have e2 := specEnc_loop n l hl' (fun y hy => ⟨(h3 y hy).1, h5 y hy⟩) l [] n rfl (by omega)
        rw [if_neg (by omega), if_neg (by omega), e1, bind_some', hok2.2, if_neg (by decide)]
        exact e2
      · unfold i_EncodeVars i_typesOK g_ContainsFunc_Type__fn_i_typesOK_c1 g_IndexFunc_Type__fn_i_typesOK_c1
        obtain ⟨i, hi, hd⟩ := idxBad_loop n l hl' h2 l [] n rfl (by omega)
        have hi : g_IndexFunc_Type__fn_i_typesOK_c1_L1 n l n 0 = some i := hi
        have e2 := implEnc_loop n l (by omega) (by omega) h7 (fun y hy => ⟨(h3 y hy).2, h4 y hy⟩) l [] n rfl (by omega)
        rw [h6, bind_some', if_neg (by simpa using hl), if_pos (by omega), hi, bind_some', bind_some', bind_some', hd, hok2.2, if_neg (by decide)]
        exact e2
    · have he : vtrees l = ([], 1) := by unfold vtrees; rw [if_neg hl, if_neg hok]
      rw [he]
      refine (H1.and (H2.and (longLists_ev l))).at (l.length + 1) fun n hn h => ?_
      obtain ⟨h1, h2, h6⟩ := h
      constructor
      · unfold s_EncodeVars s_l09Ctx
        rw [if_neg (by omega)]
        by_cases h12 : (l.length : Int) > 12
        · rw [if_pos h12, bind_some', if_pos (by decide)]
        · have e1 : s_l09Ctx_L1 n l n 0 = some (l.all vgood) := specVars_loop n l hl' h1 l [] n rfl (by omega)
          have hf : l.all vgood = false := by
            cases hq : l.all vgood with
            | false => rfl
            | true => exact absurd (by rw [hq]; simp; omega) hok
          rw [if_neg h12, e1, bind_some', hf, if_pos (by decide)]
      · unfold i_EncodeVars i_typesOK
        rw [h6, bind_some', if_neg (by simpa using hl)]
        by_cases h12 : (l.length : Int) ≤ 12
        · unfold g_ContainsFunc_Type__fn_i_typesOK_c1 g_IndexFunc_Type__fn_i_typesOK_c1
          obtain ⟨i, hi, hd⟩ := idxBad_loop n l hl' h2 l [] n rfl (by omega)
          have hi : g_IndexFunc_Type__fn_i_typesOK_c1_L1 n l n 0 = some i := hi
          have hf : l.all vgood = false := by
            cases hq : l.all vgood with
            | false => rfl
            | true => exact absurd (by rw [hq]; simp; omega) hok
          rw [if_pos h12, hi, bind_some', bind_some', bind_some', hd, hf, if_pos (by decide)]
        · rw [if_neg h12, bind_some', if_pos (by decide)]

theorem vtrees_nodes (l : List F) : tnodes (vtrees l).1 ≤ 1836 := by
  unfold vtrees
  split
  · simp [tnodes]
  · split
    · rename_i h
      simp only [Bool.and_eq_true, decide_eq_true_eq] at h
      split
      · simp [tnodes]
      · have key : ∀ r : List F, r.all vgood = true → tnodes (vts r) ≤ 153 * r.length := by
          intro r
          induction r with
          | nil => intro _; simp [vts, tnodes]
          | cons a r ih =>
            intro h
            simp only [List.all_cons, Bool.and_eq_true] at h
            have := var_nodes h.1
            have := ih h.2
            have h1 : T.nodes tmT = 1 := by decide
            simp only [vts, tnodes, List.length_cons]
            omega
        have := key l h.2
        show tnodes (vts l) ≤ 1836
        omega
    · simp [tnodes]

theorem fits_of {ks : List T} (h : tnodes ks ≤ 9223372036854775807) : ∀ t ∈ ks, T.fits t := fun t ht => nodes_fits t (by
  obtain ⟨a, b, rfl⟩ := List.append_of_mem ht
  rw [tnodes_app] at h
  simp only [tnodes] at h
  omega)

theorem lawEncodeVars_ev (l : List F) (hl : l.length ≤ 9223372036854775807) (hok : ∀ t ∈ l, t.ok) : Ev fun n => w_FnExactEncodeVars n l = some true := by
  have hsz := szTypeS_ev l hl fun t ht => szType_ev t (hok t ht)
  by_cases hb : fszS l 1048576 < 0
  · refine hsz.mp fun n h => ?_
    unfold w_FnExactEncodeVars
    rw [h 1048576 (by omega) (by omega), bind_some', if_pos hb]
  · have hsm := fszS_sm (ks := l) (left := 1048576) (by omega) (by omega) (by omega)
    have hn := vtrees_nodes l
    have hlen := tnodes_len (vtrees l).1
    refine (hsz.and ((toTypeS_ev l hsm.1 fun t ht => toType_ev t (hsm.2 t ht)).and ((encodeVars_ev l hsm.2).and ((eqTypeS_ev l hsm.1 fun t ht => eqType_ev t (hsm.2 t ht)).and ((eqTreesS_ev (vtrees l).1 (by omega) (fits_of (by omega))).and (heldTrees_ev (vtrees l).1)))))).mp fun n h => ?_
    obtain ⟨h1, h2, ⟨h3, h4⟩, h5, h6, h7⟩ := h
    have h7 := h7 1 (by omega) (by omega)
    unfold w_FnExactEncodeVars
    rw [h1 1048576 (by omega) (by omega), bind_some', if_neg hb]
    have hm : ∃ p, w_markTypeS l 1 = some p ∧ ¬ p.2 < 0 := ⟨_, rfl, fmarks_pos l (by omega)⟩
    obtain ⟨p, hp1, hp2⟩ := hm
    have hmt : w_markTreeS (vtrees l).1 1 = some ((tmarks mtx (vtrees l).1 1).1, 1 + 3 * (tnodes (vtrees l).1 : Int)) := congrArg some (Prod.ext rfl (tmarks_snd mtx _ 1 (by omega) (by omega)))
    have hneg : ¬ (1 + 3 * (tnodes (vtrees l).1 : Int)) < 0 := by omega
    simp only [h2, h3, h4, h5, h6, h7, hmt, hp1, bind_some', Bool.not_true, Bool.false_eq_true, if_false, bne_self_eq_false, if_neg hp2, if_neg hneg]

theorem lawEncodeVars_ok (l : List LF) (hl : l.length ≤ 9223372036854775807) (hok : ∀ t ∈ l, t.er.ok) (hold : ∀ t ∈ l, old t.toks) : ∀ tk, 2 ≤ tk → ACalls Go.Proofs.Try.prog 6 [.imm 0 3 false (fcellss l)] (fun _ => none) tk (RetX (fun _ => none) tk (fun v _ => v = .bool true)) := by
  intro tk h2
  obtain ⟨n, hn⟩ := (lawEncodeVars_ev (fers l) (by rw [fers_length]; exact hl) (fun t ht => by rw [fers_map] at ht; obtain ⟨t', h1, rfl⟩ := List.mem_map.1 ht; exact hok t' h1)).get
  exact w_FnExactEncodeVars_ok n 0 false l hn (old_fstoks hold) _ tk rfl h2

end Go.Am.Ytgbmcnmepfpjiaa
