/- Plain laws: the law of EncodeHyps. -/
import Derived.Test.YtgbmcnmepfpjiaaPvFTree
import Derived.Test.YtgbmcnmepfpjiaaPuB
import Derived.Test.YtgbmcnmepfpjiaaMwHyps
namespace Go.Am.Ytgbmcnmepfpjiaa
open Go Go.Am

def hgood (f : F) : Bool := decide (f.size ≤ 150) && f.fmok
def hbig (f : F) : Bool := decide (¬ T.nodes (pf (F.ftree f)) ≤ 150)

theorem hyp_fits {f : F} (h : f.size ≤ 150) : T.fits (pf (F.ftree f)) := nodes_fits _ (by have := ftree_nodes f; have := pf_nodes (F.ftree f); omega)
theorem hyp_vok (f : F) : T.vok (pf (F.ftree f)) = true := pf_vok (ftree_vok f)
theorem hyp_nodes {f : F} (h : hgood f = true) : T.nodes (pf (F.ftree f)) ≤ 151 := by
  simp only [hgood, Bool.and_eq_true, decide_eq_true_eq] at h
  have := ftree_nodes f; have := pf_nodes (F.ftree f); omega

/-! The reference. -/
theorem specHyps_loop (n : Nat) (l : List F) (hl : l.length ≤ 4096) (H : ∀ y ∈ l, s_FormOK n y = some (hgood y)) :
    ∀ (r a : List F) (m : Nat), l = a ++ r → r.length < m → s_l08Hyps_L1 n l m a.length = some (r.all hgood)
  | [], a, m, e, hm => by
    obtain ⟨m, rfl⟩ : ∃ k, m = k + 1 := ⟨m - 1, by omega⟩
    rw [s_l08Hyps_L1, e, if_neg (lt_end a)]; rfl
  | y :: r, a, m, e, hm => by
    obtain ⟨m, rfl⟩ : ∃ k, m = k + 1 := ⟨m - 1, by omega⟩
    have e1 : (a.length : Int) < (l.length : Int) := by rw [e]; exact lt_mid a y r
    have e2 : idx l (a.length : Int) = some y := by rw [e]; exact idx_mid a y r
    have hy : y ∈ l := by rw [e]; simp
    have hw : IntKind.i64.wrap ((a.length : Int) + 1) = ((a ++ [y]).length : Int) := w64_mid a y r (by rw [← e]; omega)
    rw [s_l08Hyps_L1, if_pos e1, e2, bind_some', H y hy, bind_some', hw, List.all_cons]
    cases hg : hgood y with
    | false => rfl
    | true =>
      rw [if_neg (by decide), specHyps_loop n l hl H r (a ++ [y]) m (by simp [e]) (by simpa using hm), Bool.true_and]

theorem specEnc_loop (n : Nat) (l : List F) (hl : l.length ≤ 4096) (H : ∀ y ∈ l, s_l08Tree n y = some (F.ftree y) ∧ s_l03Big n (pf (F.ftree y)) = some (hbig y)) :
    ∀ (r a : List F) (m : Nat), l = a ++ r → r.length < m → s_EncodeHyps_L1 n l m a.length (a.map fun f => pf (F.ftree f)) = some (if r.any hbig then ([], 11) else (l.map fun f => pf (F.ftree f), 0))
  | [], a, m, e, hm => by
    obtain ⟨m, rfl⟩ : ∃ k, m = k + 1 := ⟨m - 1, by omega⟩
    rw [s_EncodeHyps_L1, e, if_neg (lt_end a), List.append_nil]; rfl
  | y :: r, a, m, e, hm => by
    obtain ⟨m, rfl⟩ : ∃ k, m = k + 1 := ⟨m - 1, by omega⟩
    have e1 : (a.length : Int) < (l.length : Int) := by rw [e]; exact lt_mid a y r
    have e2 : idx l (a.length : Int) = some y := by rw [e]; exact idx_mid a y r
    have hy : y ∈ l := by rw [e]; simp
    have hw : IntKind.i64.wrap ((a.length : Int) + 1) = ((a ++ [y]).length : Int) := w64_mid a y r (by rw [← e]; omega)
    have hb : s_l03Big n (T.mk 3 0 ⟨#[112, 102]⟩ [F.ftree y]) = some (hbig y) := (H y hy).2
    rw [s_EncodeHyps_L1, if_pos e1, e2, bind_some', (H y hy).1, bind_some', hb, bind_some', hw, List.any_cons]
    cases hg : hbig y with
    | true => rfl
    | false =>
      have hlen : a.length < l.length := by rw [e]; simp
      rw [if_neg (by decide), chk_of (by simp; omega), Bool.false_or]
      have := specEnc_loop n l hl H r (a ++ [y]) m (by simp [e]) (by simpa using hm)
      rw [List.map_append] at this
      exact this

/-! The program. -/
theorem idxBad_loop (n : Nat) (l : List F) (hl : l.length ≤ 4096) (H : ∀ y ∈ l, i_FormOK n y = some (hgood y)) :
    ∀ (r a : List F) (m : Nat), l = a ++ r → r.length < m → ∃ i, g_IndexFunc_Form__fn_i_badForm_L1 n l m a.length = some i ∧ (decide (i ≥ 0)) = !(r.all hgood)
  | [], a, m, e, hm => by
    obtain ⟨m, rfl⟩ : ∃ k, m = k + 1 := ⟨m - 1, by omega⟩
    rw [g_IndexFunc_Form__fn_i_badForm_L1, e, if_neg (lt_end a)]; exact ⟨_, rfl, rfl⟩
  | y :: r, a, m, e, hm => by
    obtain ⟨m, rfl⟩ : ∃ k, m = k + 1 := ⟨m - 1, by omega⟩
    have e1 : (a.length : Int) < (l.length : Int) := by rw [e]; exact lt_mid a y r
    have e2 : idx l (a.length : Int) = some y := by rw [e]; exact idx_mid a y r
    have hy : y ∈ l := by rw [e]; simp
    have hw : IntKind.i64.wrap ((a.length : Int) + 1) = ((a ++ [y]).length : Int) := w64_mid a y r (by rw [← e]; omega)
    have hbf : i_badForm n y = some (!(hgood y)) := by unfold i_badForm; rw [H y hy, bind_some']
    rw [g_IndexFunc_Form__fn_i_badForm_L1, if_pos e1, e2, bind_some', hbf, bind_some', hw, List.all_cons]
    cases hg : hgood y with
    | false => exact ⟨_, rfl, by simp⟩
    | true =>
      rw [if_neg (by decide), Bool.true_and]
      exact idxBad_loop n l hl H r (a ++ [y]) m (by simp [e]) (by simpa using hm)

theorem idxBig_loop (n : Nat) (l : List T) (hl : l.length ≤ 4096) (b : T → Bool) (H : ∀ y ∈ l, i_tooBig n y = some (b y)) :
    ∀ (r a : List T) (m : Nat), l = a ++ r → r.length < m → ∃ i, g_IndexFunc_Tree__fn_i_tooBig_L1 n l m a.length = some i ∧ (decide (i ≥ 0)) = r.any b
  | [], a, m, e, hm => by
    obtain ⟨m, rfl⟩ : ∃ k, m = k + 1 := ⟨m - 1, by omega⟩
    rw [g_IndexFunc_Tree__fn_i_tooBig_L1, e, if_neg (lt_end a)]; exact ⟨_, rfl, rfl⟩
  | y :: r, a, m, e, hm => by
    obtain ⟨m, rfl⟩ : ∃ k, m = k + 1 := ⟨m - 1, by omega⟩
    have e1 : (a.length : Int) < (l.length : Int) := by rw [e]; exact lt_mid a y r
    have e2 : idx l (a.length : Int) = some y := by rw [e]; exact idx_mid a y r
    have hy : y ∈ l := by rw [e]; simp
    have hw : IntKind.i64.wrap ((a.length : Int) + 1) = ((a ++ [y]).length : Int) := w64_mid a y r (by rw [← e]; omega)
    rw [g_IndexFunc_Tree__fn_i_tooBig_L1, if_pos e1, e2, bind_some', H y hy, bind_some', hw, List.any_cons]
    cases hg : b y with
    | true => exact ⟨_, rfl, by simp⟩
    | false =>
      rw [if_neg (by decide), Bool.false_or]
      exact idxBig_loop n l hl b H r (a ++ [y]) m (by simp [e]) (by simpa using hm)

theorem implEnc_loop (n : Nat) (l : List F) (hl : l.length ≤ 4096) (hn : l.length < n) (H : ∀ y ∈ l, i_formTerm n y = some (F.ftree y) ∧ i_tooBig n (pf (F.ftree y)) = some (hbig y)) :
    ∀ (r a : List F) (m : Nat), l = a ++ r → r.length < m → i_EncodeHyps_L1 n l m a.length (a.map fun f => pf (F.ftree f)) = some (if l.any hbig then ([], 11) else (l.map fun f => pf (F.ftree f), 0))
  | [], a, m, e, hm => by
    obtain ⟨m, rfl⟩ : ∃ k, m = k + 1 := ⟨m - 1, by omega⟩
    rw [List.append_nil] at e
    subst e
    have hB : ∀ y ∈ l.map (fun f => pf (F.ftree f)), ∃ f ∈ l, y = pf (F.ftree f) := fun y hy => by obtain ⟨f, hf, rfl⟩ := List.mem_map.1 hy; exact ⟨f, hf, rfl⟩
    obtain ⟨i, hi, hd⟩ := idxBig_loop n (l.map fun f => pf (F.ftree f)) (by simpa using hl) (fun t => decide (¬ T.nodes t ≤ 150)) (fun y hy => by obtain ⟨f, hf, rfl⟩ := hB y hy; exact (H f hf).2) (l.map fun f => pf (F.ftree f)) [] n rfl (by simpa using hn)
    have hi' : g_IndexFunc_Tree__fn_i_tooBig_L1 n (l.map fun f => pf (F.ftree f)) n 0 = some i := hi
    have hany : (l.map fun f => pf (F.ftree f)).any (fun t => decide (¬ T.nodes t ≤ 150)) = l.any hbig := by rw [List.any_map]; rfl
    rw [i_EncodeHyps_L1, if_neg (by omega)]
    unfold g_ContainsFunc_Tree__fn_i_tooBig g_IndexFunc_Tree__fn_i_tooBig
    rw [hi', bind_some', bind_some', hd, hany]
    cases l.any hbig <;> rfl
  | y :: r, a, m, e, hm => by
    obtain ⟨m, rfl⟩ : ∃ k, m = k + 1 := ⟨m - 1, by omega⟩
    have e1 : (a.length : Int) < (l.length : Int) := by rw [e]; exact lt_mid a y r
    have e2 : idx l (a.length : Int) = some y := by rw [e]; exact idx_mid a y r
    have hy : y ∈ l := by rw [e]; simp
    have hw : IntKind.i64.wrap ((a.length : Int) + 1) = ((a ++ [y]).length : Int) := w64_mid a y r (by rw [← e]; omega)
    have hj : i_judgement n y = some (pf (F.ftree y)) := by unfold i_judgement; rw [(H y hy).1, bind_some']; rfl
    have hlen : a.length < l.length := by rw [e]; simp
    rw [i_EncodeHyps_L1, if_pos e1, e2, bind_some', hj, bind_some', hw, chk_of (by simp; omega)]
    have := implEnc_loop n l hl hn H r (a ++ [y]) m (by simp [e]) (by simpa using hm)
    rw [List.map_append] at this
    exact this

/-- What EncodeHyps answers. -/
def htrees (l : List F) : List T × Int :=
  if 4096 < l.length then ([], 2) else if decide (l.length ≤ 12) && l.all hgood then (if l.any hbig then ([], 11) else (l.map fun f => pf (F.ftree f), 0)) else ([], 1)

theorem longLists_ev (l : List F) : Ev fun n => i_longLists n [(l.length : Int)] = some (decide (4096 < l.length)) := by
  refine ⟨2, fun n hn => ?_⟩
  obtain ⟨n, rfl⟩ : ∃ q, n = q + 2 := ⟨n - 2, by omega⟩
  unfold i_longLists g_Max_X
  rw [if_neg (by simp), show idx [(l.length : Int)] 0 = some (l.length : Int) from rfl, bind_some', g_Max_X_L1, if_neg (by simp), bind_some']
  congr 1
  exact decide_eq_decide.2 (by omega)

theorem encodeHyps_ev (l : List F) (hsm : ∀ t ∈ l, t.sm) : Ev fun n => s_EncodeHyps n l = some (htrees l) ∧ i_EncodeHyps n l = some (htrees l) := by
  by_cases hl : 4096 < l.length
  · refine (longLists_ev l).mp fun n h => ?_
    have he : htrees l = ([], 2) := if_pos hl
    rw [he]
    constructor
    · unfold s_EncodeHyps; rw [if_pos (by omega)]
    · unfold i_EncodeHyps; rw [h, bind_some', if_pos (by simpa using hl)]
  · have hl' : l.length ≤ 4096 := by omega
    have H1 : Ev fun n => ∀ y ∈ l, s_FormOK n y = some (hgood y) := Ev.all fun y hy => specFormOK_ev y (hsm y hy)
    have H2 : Ev fun n => ∀ y ∈ l, i_FormOK n y = some (hgood y) := Ev.all fun y _ => implFormOK_ev y
    by_cases hok : (decide (l.length ≤ 12) && l.all hgood) = true
    · have hok2 := hok
      simp only [Bool.and_eq_true, decide_eq_true_eq] at hok2
      have hg : ∀ y ∈ l, y.size ≤ 150 ∧ y.fmok = true := fun y hy => by
        have := List.all_eq_true.1 hok2.2 y hy
        simpa only [hgood, Bool.and_eq_true, decide_eq_true_eq] using this
      have H3 : Ev fun n => ∀ y ∈ l, s_l08Tree n y = some (F.ftree y) ∧ i_formTerm n y = some (F.ftree y) := Ev.all fun y hy => formTree_ev y (hg y hy).2
      have H4 : Ev fun n => ∀ y ∈ l, i_tooBig n (pf (F.ftree y)) = some (hbig y) := Ev.all fun y hy => tooBig_ev _ (hyp_vok y) (hyp_fits (hg y hy).1)
      have H5 : Ev fun n => ∀ y ∈ l, s_l03Big n (pf (F.ftree y)) = some (hbig y) := Ev.all fun y hy => bigS_ev _ (hyp_vok y) (hyp_fits (hg y hy).1)
      refine (H1.and (H2.and (H3.and (H4.and (H5.and (longLists_ev l)))))).at (l.length + 1) fun n hn h => ?_
      obtain ⟨h1, h2, h3, h4, h5, h6⟩ := h
      have he : htrees l = (if l.any hbig then ([], 11) else (l.map fun f => pf (F.ftree f), 0)) := by unfold htrees; rw [if_neg hl, if_pos hok]
      rw [he]
      constructor
      · unfold s_EncodeHyps s_l08Hyps
        have e1 := specHyps_loop n l hl' h1 l [] n rfl (by omega)
        have e1 : s_l08Hyps_L1 n l n 0 = some (l.all hgood) := e1
        have e2 := specEnc_loop n l hl' (fun y hy => ⟨(h3 y hy).1, h5 y hy⟩) l [] n rfl (by omega)
        rw [if_neg (by omega), if_neg (by omega), e1, bind_some', hok2.2, if_neg (by decide)]
        exact e2
      · unfold i_EncodeHyps i_hypsOK g_ContainsFunc_Form__fn_i_badForm g_IndexFunc_Form__fn_i_badForm
        obtain ⟨i, hi, hd⟩ := idxBad_loop n l hl' h2 l [] n rfl (by omega)
        have hi : g_IndexFunc_Form__fn_i_badForm_L1 n l n 0 = some i := hi
        have e2 := implEnc_loop n l hl' (by omega) (fun y hy => ⟨(h3 y hy).2, h4 y hy⟩) l [] n rfl (by omega)
        rw [h6, bind_some', if_neg (by simpa using hl), if_pos (by omega), hi, bind_some', bind_some', bind_some', hd, hok2.2, if_neg (by decide)]
        exact e2
    · have he : htrees l = ([], 1) := by unfold htrees; rw [if_neg hl, if_neg hok]
      rw [he]
      refine (H1.and (H2.and (longLists_ev l))).at (l.length + 1) fun n hn h => ?_
      obtain ⟨h1, h2, h6⟩ := h
      constructor
      · unfold s_EncodeHyps s_l08Hyps
        rw [if_neg (by omega)]
        by_cases h12 : (l.length : Int) > 12
        · rw [if_pos h12, bind_some', if_pos (by decide)]
        · have e1 : s_l08Hyps_L1 n l n 0 = some (l.all hgood) := specHyps_loop n l hl' h1 l [] n rfl (by omega)
          have hf : l.all hgood = false := by
            cases hq : l.all hgood with
            | false => rfl
            | true => exact absurd (by rw [hq]; simp; omega) hok
          rw [if_neg h12, e1, bind_some', hf, if_pos (by decide)]
      · unfold i_EncodeHyps i_hypsOK
        rw [h6, bind_some', if_neg (by simpa using hl)]
        by_cases h12 : (l.length : Int) ≤ 12
        · unfold g_ContainsFunc_Form__fn_i_badForm g_IndexFunc_Form__fn_i_badForm
          obtain ⟨i, hi, hd⟩ := idxBad_loop n l hl' h2 l [] n rfl (by omega)
          have hi : g_IndexFunc_Form__fn_i_badForm_L1 n l n 0 = some i := hi
          have hf : l.all hgood = false := by
            cases hq : l.all hgood with
            | false => rfl
            | true => exact absurd (by rw [hq]; simp; omega) hok
          rw [if_pos h12, hi, bind_some', bind_some', bind_some', hd, hf, if_pos (by decide)]
        · rw [if_neg h12, bind_some', if_pos (by decide)]

theorem htrees_nodes (l : List F) : tnodes (htrees l).1 ≤ 1812 := by
  unfold htrees
  split
  · simp [tnodes]
  · split
    · rename_i h
      simp only [Bool.and_eq_true, decide_eq_true_eq] at h
      split
      · simp [tnodes]
      · have key : ∀ r : List F, r.all hgood = true → tnodes (r.map fun f => pf (F.ftree f)) ≤ 151 * r.length := by
          intro r
          induction r with
          | nil => intro _; simp [tnodes]
          | cons a r ih =>
            intro h
            simp only [List.all_cons, Bool.and_eq_true] at h
            have := hyp_nodes h.1
            have := ih h.2
            simp only [List.map_cons, tnodes, List.length_cons]
            omega
        have := key l h.2
        show tnodes (l.map fun f => pf (F.ftree f)) ≤ 1812
        omega
    · simp [tnodes]

theorem fits_of {ks : List T} (h : tnodes ks ≤ 9223372036854775807) : ∀ t ∈ ks, T.fits t := fun t ht => nodes_fits t (by
  obtain ⟨a, b, rfl⟩ := List.append_of_mem ht
  rw [tnodes_app] at h
  simp only [tnodes] at h
  omega)

theorem lawEncodeHyps_ev (l : List F) (hl : l.length ≤ 9223372036854775807) (hok : ∀ t ∈ l, t.ok) : Ev fun n => w_FnExactEncodeHyps n l = some true := by
  have hsz := szFormS_ev l hl fun t ht => szForm_ev t (hok t ht)
  by_cases hb : fszS l 1048576 < 0
  · refine hsz.mp fun n h => ?_
    unfold w_FnExactEncodeHyps
    rw [h 1048576 (by omega) (by omega), bind_some', if_pos hb]
  · have hsm := fszS_sm (ks := l) (left := 1048576) (by omega) (by omega) (by omega)
    have hn := htrees_nodes l
    have hlen := tnodes_len (htrees l).1
    refine (hsz.and ((toFormS_ev l hsm.1 fun t ht => toForm_ev t (hsm.2 t ht)).and ((encodeHyps_ev l hsm.2).and ((eqFormS_ev l hsm.1 fun t ht => eqForm_ev t (hsm.2 t ht)).and ((eqTreesS_ev (htrees l).1 (by omega) (fits_of (by omega))).and (heldTrees_ev (htrees l).1)))))).mp fun n h => ?_
    obtain ⟨h1, h2, ⟨h3, h4⟩, h5, h6, h7⟩ := h
    have h7 := h7 1 (by omega) (by omega)
    unfold w_FnExactEncodeHyps
    rw [h1 1048576 (by omega) (by omega), bind_some', if_neg hb]
    have hm : ∃ p, w_markFormS l 1 = some p ∧ ¬ p.2 < 0 := ⟨_, rfl, fmarks_pos l (by omega)⟩
    obtain ⟨p, hp1, hp2⟩ := hm
    have hmt : w_markTreeS (htrees l).1 1 = some ((tmarks mtx (htrees l).1 1).1, 1 + 3 * (tnodes (htrees l).1 : Int)) := congrArg some (Prod.ext rfl (tmarks_snd mtx _ 1 (by omega) (by omega)))
    have hneg : ¬ (1 + 3 * (tnodes (htrees l).1 : Int)) < 0 := by omega
    simp only [h2, h3, h4, h5, h6, h7, hmt, hp1, bind_some', Bool.not_true, Bool.false_eq_true, if_false, bne_self_eq_false, if_neg hp2, if_neg hneg]

theorem lawEncodeHyps_ok (l : List LF) (hl : l.length ≤ 9223372036854775807) (hok : ∀ t ∈ l, t.er.ok) (hold : ∀ t ∈ l, old t.toks) : ∀ tk, 2 ≤ tk → ACalls Go.Proofs.Try.prog 7 [.imm 0 3 false (fcellss l)] (fun _ => none) tk (RetX (fun _ => none) tk (fun v _ => v = .bool true)) := by
  intro tk h2
  obtain ⟨n, hn⟩ := (lawEncodeHyps_ev (fers l) (by rw [fers_length]; exact hl) (fun t ht => by rw [fers_map] at ht; obtain ⟨t', h1, rfl⟩ := List.mem_map.1 ht; exact hok t' h1)).get
  exact w_FnExactEncodeHyps_ok n 0 false l hn (old_fstoks hold) _ tk rfl h2

end Go.Am.Ytgbmcnmepfpjiaa
