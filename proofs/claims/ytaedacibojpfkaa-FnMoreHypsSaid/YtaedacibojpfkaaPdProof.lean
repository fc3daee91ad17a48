/- Plain laws of draws: proofs, and what they prove, whatever stands ahead of the hypotheses. -/
import Derived.Test.YtaedacibojpfkaaPdForm
import Derived.Test.YtaedacibojpfkaaPvProvesA
namespace Go.Am.Ytaedacibojpfkaa
open Go Go.Am

theorem beq_self (a : F) : a.beq a = true := by
  induction a using F.ind with
  | _ k n ks ih =>
    have hl : ∀ l : List F, (∀ t ∈ l, t.beq t = true) → fbeqs l l = true := by
      intro l
      induction l with
      | nil => intro _; simp [fbeqs]
      | cons t r ihl => intro h; simp only [fbeqs]; rw [h t (List.mem_cons_self ..), ihl fun t ht => h t (List.mem_cons_of_mem _ ht)]; rfl
    simp only [F.beq]
    rw [hl ks ih]
    simp
theorem beq_eq (a : F) : ∀ b, a.beq b = true → a = b := by
  induction a using F.ind with
  | _ k n ks ih =>
    intro b h
    obtain ⟨k2, n2, ks2⟩ := b
    simp only [F.beq, Bool.and_eq_true, decide_eq_true_eq] at h
    obtain ⟨rfl, rfl, h⟩ := h
    have hl : ∀ l l2 : List F, (∀ t ∈ l, ∀ b, t.beq b = true → t = b) → fbeqs l l2 = true → l = l2 := by
      intro l
      induction l with
      | nil => intro l2 _ h; cases l2 with
        | nil => rfl
        | cons => simp [fbeqs] at h
      | cons t r ihl =>
        intro l2 H h
        cases l2 with
        | nil => simp [fbeqs] at h
        | cons s r2 =>
          simp only [fbeqs, Bool.and_eq_true] at h
          rw [H t (List.mem_cons_self ..) s h.1, ihl r2 (fun t ht => H t (List.mem_cons_of_mem _ ht)) h.2]
    rw [hl ks ks2 ih h]

/-- It proves f from these hypotheses, whatever stands ahead of them. -/
structure Good (hs : List F) (p : Pf) (f : F) : Prop where
  pv : ∀ (pre : List F) (at_ : Int), p.pv (pre ++ hs) at_ = .ok f
  fm : f.fmok = true
  sm : p.sm

def pcost : Nat → Int
  | 0 => 100
  | m + 1 => 2 * pcost m + 100
theorem pcost_pos : ∀ m, 100 ≤ pcost m
  | 0 => Int.le_refl _
  | m + 1 => by have := pcost_pos m; simp only [pcost]; omega
theorem pcost_mono {m k : Nat} (h : m ≤ k) : pcost m ≤ pcost k := by
  induction h with
  | refl => exact Int.le_refl _
  | step _ ih => rename_i k _; have := pcost_pos k; simp only [pcost]; omega

theorem psm_mk {k n : Int} {fs : List F} {ks : List Pf} (h1 : fs.length ≤ 2) (h2 : ∀ f ∈ fs, f.fmok = true) (h3 : ks.length ≤ 2) (h4 : ∀ t ∈ ks, t.sm) : (Pf.mk k n fs ks).sm := by
  unfold Pf.sm
  exact ⟨⟨by omega, fun t ht => fmok_sm t (h2 t ht)⟩, by omega, h4⟩

theorem good_hyp {hs : List F} {r : Int} (h0 : 0 ≤ r) (h1 : r < hs.length) (hm : ∀ f ∈ hs, f.fmok = true) (hl : hs.length ≤ 1000) :
    ∃ y, idx hs (IntKind.i64.wrap ((IntKind.i64.wrap ((hs.length : Int) - 1)) - r)) = some y ∧ Good hs (Pf.mk 1 r [] []) y := by
  rw [w64_eq (x := (hs.length : Int) - 1) (by omega) (by omega), w64_eq (by omega) (by omega)]
  obtain ⟨y, hy, hi⟩ := idx_get (l := hs) (i := (hs.length : Int) - 1 - r) (by omega) (by omega)
  refine ⟨y, hi, ⟨fun pre at_ => ?_, hm y hy, psm_mk (by simp) (fun f h => by cases h) (by simp) (fun t h => by cases h)⟩⟩
  simp only [Pf.pv]
  rw [if_pos trivial, if_neg (by simp; omega)]
  have hi' : hs[((hs.length : Int) - 1 - r).toNat]? = some y := by
    unfold idx at hi
    rw [if_pos (by omega)] at hi
    exact hi
  have e : (pre ++ hs)[(pre ++ hs).length - 1 - r.toNat]? = some y := by
    rw [List.getElem?_append_right (by simp; omega)]
    rw [← hi']
    congr 1
    simp; omega
  rw [e]; rfl

theorem proof_dr {c : List Int} (hc : Byt c) : ∀ (m : Nat) (d : Int) {hs : List F} {K : Int} {z : List Int × Int × Int}, d.toNat = m → -10 ≤ d → d ≤ 10 → Dr c K z → 0 ≤ K → K + pcost m ≤ 1000000000 → (∀ f ∈ hs, f.fmok = true) → hs.length + m ≤ 100 →
    ∃ p f z', (Ev fun n => s_l00Src_proof n z hs d = some (p, f, z')) ∧ Good hs p f ∧ Dr c (K + pcost m) z' := by
  -- a hypothesis
  have hyp : ∀ (d : Int) {hs : List F} {K : Int} {z : List Int × Int × Int}, d ≤ 0 → hs ≠ [] → Dr c K z → 0 ≤ K → K + 1 ≤ 1000000000 → (∀ f ∈ hs, f.fmok = true) → hs.length ≤ 200 →
      ∃ p f z', (Ev fun n => s_l00Src_proof n z hs d = some (p, f, z')) ∧ Good hs p f ∧ Dr c (K + 1) z' := by
    intro d hs K z hd hne h h0 hK hm hl
    have hpos := List.length_pos_iff.2 hne
    obtain ⟨r, z1, e1, r0, r1, h1⟩ := next_dr hc h (by omega) (n := (hs.length : Int)) (by omega) (by omega)
    obtain ⟨y, hy, hg⟩ := good_hyp r0 r1 hm (by omega)
    refine ⟨_, y, z1, (Ev.of (p := fun _ => True) fun _ => trivial).up 0 fun n _ _ => ?_, hg, h1⟩
    have e1' : s_l00Src_next (z.1, z.2.1, z.2.2) (hs.length : Int) = some (r, z1) := e1
    rw [s_l00Src_proof, jn_eq, if_pos hd, if_pos (by omega), e1', bind_some']
    show (idx hs (IntKind.i64.wrap ((IntKind.i64.wrap ((hs.length : Int) - 1)) - r))).bind _ = _
    rw [hy]; rfl
  intro m
  induction m using Nat.strongRecOn with
  | _ m ih =>
  -- an implication
  have fun_ : ∀ (d : Int) {hs : List F} {K : Int} {z : List Int × Int × Int} (C : Int), Dr c K z → 0 ≤ K → 30 ≤ C → K + C ≤ 1000000000 → (∀ f ∈ hs, f.fmok = true) → hs.length ≤ 150 → -10 ≤ d → d ≤ 10 →
      (∀ {a : F} {z' : List Int × Int × Int}, Dr c (K + 20) z' → a.fmok = true → ∃ p f z'', (Ev fun n => s_l00Src_proof n z' (hs ++ [a]) (d - 1) = some (p, f, z'')) ∧ Good (hs ++ [a]) p f ∧ Dr c (K + C) z'') →
      ∃ p f z', (Ev fun n => ((s_l00Src_next z 2).bind fun r203 => (s_l00Src_form n (r203.2.1, r203.2.2.1, r203.2.2.2) r203.1).bind fun r215 => (s_l08More hs r215.1).bind fun r227 => (s_l00Src_proof n (r215.2.1, r215.2.2.1, r215.2.2.2) r227 (IntKind.i64.wrap (d - 1))).bind fun r234 => some ((Pf.mk 5 0 [r215.1, r234.2.1] [r234.1]), (F.mk 3 0 [r215.1, r234.2.1]), (r234.2.2.1, r234.2.2.2.1, r234.2.2.2.2))) = some (p, f, z')) ∧ Good hs p f ∧ Dr c (K + C) z' := by
    intro d hs K z C h h0 hC hK hm hl hd0 hd1 rec
    obtain ⟨r, z1, e1, r0, r1, h1⟩ := next_dr hc h (by omega) (n := 2) (by omega) (by omega)
    have hc2 : fcost r.toNat ≤ 11 := by
      have : r.toNat = 0 ∨ r.toNat = 1 := by omega
      rcases this with h | h <;> rw [h] <;> decide
    obtain ⟨a, z2, e2, a1, a2, h2⟩ := form_dr hc r.toNat h1 (by omega) (by omega) (by omega)
    rw [show ((r.toNat : Nat) : Int) = r by omega] at e2
    obtain ⟨p, f, z3, e3, hg, h3⟩ := rec (h2.mono (by omega)) a1
    refine ⟨Pf.mk 5 0 [a, f] [p], F.mk 3 0 [a, f], z3, (e2.and e3).mp fun n ⟨q2, q3⟩ => ?_, ⟨fun pre at_ => ?_, two_fmok (.inr rfl) a1 hg.fm, psm_mk (by simp) (fun g hg' => ?_) (by simp) (fun t ht => by rw [List.mem_singleton.1 ht]; exact hg.sm)⟩, h3⟩
    · rw [e1, bind_some']
      have q2' : s_l00Src_form n (z1.1, z1.2.1, z1.2.2) r = some (a, z2) := q2
      show (s_l00Src_form n (z1.1, z1.2.1, z1.2.2) r).bind _ = _
      rw [q2', bind_some']
      have em : s_l08More hs a = some (hs ++ [a]) := by
        unfold s_l08More
        repeat rw [chk_of (by simp <;> omega)]
      show (s_l08More hs a).bind _ = _
      rw [em, bind_some', w64_eq (by omega) (by omega)]
      have q3' : s_l00Src_proof n (z2.1, z2.2.1, z2.2.2) (hs ++ [a]) (d - 1) = some (p, f, z3) := q3
      show (s_l00Src_proof n (z2.1, z2.2.1, z2.2.2) (hs ++ [a]) (d - 1)).bind _ = _
      rw [q3']; rfl
    · have hp := hg.pv pre (at_ + 1)
      rw [← List.append_assoc] at hp
      simp only [Pf.pv]
      rw [if_neg (by decide), if_pos trivial]
      show pvs [p] ((pre ++ hs) ++ [a]) [f] (F.mk 3 0 [a, f]) (at_ + 1) = _
      rw [pvs_e_ok hp, if_pos (beq_self f)]
      simp only [pvs]
    · simp only [List.mem_cons, List.not_mem_nil, or_false] at hg'
      rcases hg' with rfl | rfl
      · exact a1
      · exact hg.fm
  intro d hs K z hdm hd0 hd1 h h0 hK hm hl
  have hP := pcost_pos m
  by_cases hd : d ≤ 0
  · have hm0 : m = 0 := by omega
    subst hm0
    simp only [pcost] at hK
    by_cases hne : hs = []
    · subst hne
      obtain ⟨p, f, z', e, hg, h'⟩ := fun_ d (hs := []) 30 h h0 (by omega) (by omega) hm (by simp) hd0 hd1 (fun {a z'} h1 ha => by
        obtain ⟨p, f, z2, e, hg, h2⟩ := hyp (d - 1) (hs := [] ++ [a]) (K := K + 20) (by omega) (by simp) h1 (by omega) (by omega) (fun f hf => by simp at hf; rw [hf]; exact ha) (by simp)
        exact ⟨p, f, z2, e, hg, h2.mono (by omega)⟩)
      refine ⟨p, f, z', e.up 0 fun n _ q => ?_, hg, h'.mono (by simp only [pcost]; omega)⟩
      rw [s_l00Src_proof, jn_eq, jn_eq, if_pos hd, if_neg (by simp), if_neg (by omega)]
      show (if (3 : Int) = 0 then _ else _) = _
      rw [if_neg (by decide), if_neg (by decide), if_neg (by decide)]
      exact q
    · obtain ⟨p, f, z', e, hg, h'⟩ := hyp d hd hne h h0 (by omega) hm (by omega)
      exact ⟨p, f, z', e, hg, h'.mono (by simp only [pcost]; omega)⟩
  · obtain ⟨k, rfl⟩ : ∃ k, m = k + 1 := ⟨m - 1, by omega⟩
    have hk := pcost_pos k
    simp only [pcost] at hK
    obtain ⟨r, z1, e1, r0, r1, h1⟩ := next_dr hc h (by omega) (n := 5) (by omega) (by omega)
    have e1' : s_l00Src_next (z.1, z.2.1, z.2.2) 5 = some (r, z1) := e1
    have w1 : IntKind.i64.wrap (d - 1) = d - 1 := w64_eq (by omega) (by omega)
    have w2 : IntKind.i64.wrap (d - 2) = d - 2 := w64_eq (by omega) (by omega)
    by_cases hr3 : r ≥ 3
    · obtain ⟨p, f, z', e, hg, h'⟩ := fun_ d (K := K + 1) (z := z1) (20 + pcost k) h1 (by omega) (by omega) (by omega) hm (by omega) hd0 hd1 (fun {a z'} h2 ha => by
        obtain ⟨p, f, z2, e, hg, h3⟩ := ih k (by omega) (d - 1) (hs := hs ++ [a]) (K := K + 1 + 20) (by omega) (by omega) (by omega) h2 (by omega) (by omega) (fun f hf => by
          rcases List.mem_append.1 hf with q | q
          · exact hm f q
          · rw [List.mem_singleton.1 q]; exact ha) (by simp; omega)
        exact ⟨p, f, z2, e, hg, h3.mono (by omega)⟩)
      refine ⟨p, f, z', e.up 0 fun n _ q => ?_, hg, h'.mono (by simp only [pcost]; omega)⟩
      rw [s_l00Src_proof, jn_eq, jn_eq, if_neg hd, if_pos (by omega), e1', bind_some']
      show (if r = 0 then _ else _) = _
      rw [if_neg (by omega), if_neg (by omega), if_neg (by omega)]
      exact q
    · -- a proof of less depth
      obtain ⟨p, f, z2, e2, hg, h2⟩ := ih k (by omega) (d - 1) (hs := hs) (K := K + 1) (z := z1) (by omega) (by omega) (by omega) h1 (by omega) (by omega) hm (by omega)
      have open_ : ∀ n, s_l00Src_proof n z1 hs (d - 1) = some (p, f, z2) → s_l00Src_proof n (z1.1, z1.2.1, z1.2.2) hs (IntKind.i64.wrap (d - 1)) = some (p, f, z2) := fun n q => by rw [w1]; exact q
      have two : ∃ q b z3, (Ev fun n => s_l00Src_proof n z2 hs (d - 2) = some (q, b, z3)) ∧ Good hs q b ∧ Dr c (K + 1 + pcost k + pcost k) z3 := by
        have hk2 : pcost (d - 2).toNat ≤ pcost k := pcost_mono (by omega)
        obtain ⟨q, b, z3, e, g, h3⟩ := ih (d - 2).toNat (by omega) (d - 2) (hs := hs) (K := K + 1 + pcost k) (z := z2) rfl (by omega) (by omega) h2 (by omega) (by omega) hm (by omega)
        exact ⟨q, b, z3, e, g, h3.mono (by omega)⟩
      have hr : r = 0 ∨ r = 1 ∨ r = 2 := by omega
      rcases hr with rfl | rfl | rfl
      · obtain ⟨q, b, z3, e3, hb, h3⟩ := two
        refine ⟨Pf.mk 2 0 [f, b] [p, q], F.mk 2 0 [f, b], z3, (e2.and e3).up 0 fun n _ ⟨q2, q3⟩ => ?_, ⟨fun pre at_ => ?_, two_fmok (.inl rfl) hg.fm hb.fm, psm_mk (by simp) (fun g hg' => ?_) (by simp) (fun t ht => ?_)⟩, h3.mono (by simp only [pcost]; omega)⟩
        · rw [s_l00Src_proof, jn_eq, jn_eq, if_neg hd, if_pos (by omega), e1', bind_some']
          show (s_l00Src_proof n (z1.1, z1.2.1, z1.2.2) hs (IntKind.i64.wrap (d - 1))).bind _ = _
          rw [open_ n q2, bind_some']
          show (s_l00Src_proof n (z2.1, z2.2.1, z2.2.2) hs (IntKind.i64.wrap (d - 2))).bind _ = _
          have q3' : s_l00Src_proof n (z2.1, z2.2.1, z2.2.2) hs (IntKind.i64.wrap (d - 2)) = some (q, b, z3) := by rw [w2]; exact q3
          rw [q3']; rfl
        · simp only [Pf.pv]
          rw [if_neg (by decide), if_neg (by decide)]
          show pvs [p, q] (pre ++ hs) [f, b] (F.mk 2 0 [f, b]) (at_ + 1) = _
          rw [pvs_e_ok (hg.pv pre _), if_pos (beq_self f), pvs_e_ok (hb.pv pre _), if_pos (beq_self b)]
          simp only [pvs]
        · simp only [List.mem_cons, List.not_mem_nil, or_false] at hg'
          rcases hg' with rfl | rfl
          · exact hg.fm
          · exact hb.fm
        · simp only [List.mem_cons, List.not_mem_nil, or_false] at ht
          rcases ht with rfl | rfl
          · exact hg.sm
          · exact hb.sm
      · by_cases k2 : f.kind = 2
        · obtain ⟨a, b, hf, ha, hb⟩ := two_parts hg.fm (.inl k2)
          rw [k2] at hf
          obtain ⟨s, z3, e3, s0, s1, h3⟩ := next_dr hc h2 (by omega) (n := 2) (by omega) (by omega)
          have hs2 : s = 0 ∨ s = 1 := by omega
          have hfin : ∃ y, idx f.kids s = some y ∧ y.fmok = true ∧ y = pout (3 + s) a b := by
            rw [hf]
            rcases hs2 with rfl | rfl
            · exact ⟨a, rfl, ha, rfl⟩
            · exact ⟨b, rfl, hb, rfl⟩
          obtain ⟨y, hy, hyf, hyo⟩ := hfin
          refine ⟨Pf.mk (3 + s) 0 [a, b] [p], y, z3, e2.up 0 fun n _ q2 => ?_, ⟨fun pre at_ => ?_, hyf, psm_mk (by simp) (fun g hg' => ?_) (by simp) (fun t ht => by rw [List.mem_singleton.1 ht]; exact hg.sm)⟩, h3.mono (by simp only [pcost]; omega)⟩
          · rw [s_l00Src_proof, jn_eq, jn_eq, if_neg hd, if_pos (by omega), e1', bind_some']
            show (if (1 : Int) = 0 then _ else _) = _
            rw [if_neg (by decide), if_pos rfl]
            show (s_l00Src_proof n (z1.1, z1.2.1, z1.2.2) hs (IntKind.i64.wrap (d - 1))).bind _ = _
            rw [open_ n q2, bind_some']
            show (if f.kind = 2 then _ else _) = _
            rw [if_pos k2]
            have e3' : s_l00Src_next (z2.1, z2.2.1, z2.2.2) 2 = some (s, z3) := e3
            show (s_l00Src_next (z2.1, z2.2.1, z2.2.2) 2).bind _ = _
            rw [e3', bind_some']
            show (idx f.kids 0).bind _ = _
            have i0 : idx f.kids 0 = some a := by rw [hf]; rfl
            have i1 : idx f.kids 1 = some b := by rw [hf]; rfl
            rw [i0, bind_some']
            show (idx f.kids 1).bind _ = _
            rw [i1, bind_some']
            show (idx f.kids s).bind _ = _
            rw [hy, bind_some']
            show some (Pf.mk (IntKind.i64.wrap (3 + s)) 0 [a, b] [p], y, _) = _
            rw [w64_eq (by omega) (by omega)]
          · simp only [Pf.pv]
            rw [if_neg (by omega), if_neg (by omega)]
            have hw : pwants (3 + s) (fa [a, b]) (fb [a, b]) = [f] := by
              rcases hs2 with rfl | rfl <;> rw [hf] <;> rfl
            have ho : pout (3 + s) (fa [a, b]) (fb [a, b]) = y := by rw [hyo]; rfl
            rw [hw, ho, pvs_e_ok (hg.pv pre _), if_pos (beq_self f)]
            simp only [pvs]
          · simp only [List.mem_cons, List.not_mem_nil, or_false] at hg'
            rcases hg' with rfl | rfl
            · exact ha
            · exact hb
        · by_cases k4 : f.kind = 4
          · have hf := bot_parts hg.fm k4
            obtain ⟨g, z3, e3, g1, g2, h3⟩ := form_dr hc 1 h2 (by omega) (by omega) (by have : fcost 1 = 11 := rfl; omega)
            have hf1 : fcost 1 = 11 := rfl
            refine ⟨Pf.mk 7 0 [g] [p], g, z3, (e2.and e3).up 0 fun n _ ⟨q2, q3⟩ => ?_, ⟨fun pre at_ => ?_, g1, psm_mk (by simp) (fun g' hg' => by rw [List.mem_singleton.1 hg']; exact g1) (by simp) (fun t ht => by rw [List.mem_singleton.1 ht]; exact hg.sm)⟩, h3.mono (by simp only [pcost]; omega)⟩
            · rw [s_l00Src_proof, jn_eq, jn_eq, if_neg hd, if_pos (by omega), e1', bind_some']
              show (if (1 : Int) = 0 then _ else _) = _
              rw [if_neg (by decide), if_pos rfl]
              show (s_l00Src_proof n (z1.1, z1.2.1, z1.2.2) hs (IntKind.i64.wrap (d - 1))).bind _ = _
              rw [open_ n q2, bind_some']
              show (if f.kind = 2 then _ else _) = _
              rw [if_neg k2]
              show (if f.kind = 4 then _ else _) = _
              rw [if_pos k4]
              show (s_l00Src_form n (z2.1, z2.2.1, z2.2.2) 1).bind _ = _
              have q3' : s_l00Src_form n (z2.1, z2.2.1, z2.2.2) 1 = some (g, z3) := q3
              rw [q3']; rfl
            · simp only [Pf.pv]
              rw [if_neg (by decide), if_neg (by decide)]
              show pvs [p] (pre ++ hs) [F.mk 4 0 []] g (at_ + 1) = _
              rw [pvs_e_ok (hg.pv pre _), if_pos (by rw [hf]; exact beq_self _)]
              simp only [pvs]
          · refine ⟨p, f, z2, e2.up 0 fun n _ q2 => ?_, hg, h2.mono (by simp only [pcost]; omega)⟩
            rw [s_l00Src_proof, jn_eq, jn_eq, if_neg hd, if_pos (by omega), e1', bind_some']
            show (if (1 : Int) = 0 then _ else _) = _
            rw [if_neg (by decide), if_pos rfl]
            show (s_l00Src_proof n (z1.1, z1.2.1, z1.2.2) hs (IntKind.i64.wrap (d - 1))).bind _ = _
            rw [open_ n q2, bind_some']
            show (if f.kind = 2 then _ else _) = _
            rw [if_neg k2]
            show (if f.kind = 4 then _ else _) = _
            rw [if_neg k4]
      · obtain ⟨q, a, z3, e3, ha, h3⟩ := two
        have head : ∀ n, s_l00Src_proof n z1 hs (d - 1) = some (p, f, z2) → s_l00Src_proof n z2 hs (d - 2) = some (q, a, z3) → s_l00Src_proof (n + 1) z hs d =
            (if f.kind = 3 then (idx f.kids 0).bind fun y180 => (s_l08Same n y180 a).bind fun r185 => if r185 = true then (idx f.kids 1).bind fun y193 => (idx f.kids 1).bind fun y198 => some ((Pf.mk 6 0 [a, y193] [p, q]), y198, (z3.1, z3.2.1, z3.2.2)) else some (p, f, (z3.1, z3.2.1, z3.2.2)) else some (p, f, (z3.1, z3.2.1, z3.2.2))) := by
          intro n q2 q3
          rw [s_l00Src_proof, jn_eq, jn_eq, if_neg hd, if_pos (by omega), e1', bind_some']
          show (if (2 : Int) = 0 then _ else _) = _
          rw [if_neg (by decide), if_neg (by simp), if_pos rfl]
          show (s_l00Src_proof n (z1.1, z1.2.1, z1.2.2) hs (IntKind.i64.wrap (d - 1))).bind _ = _
          rw [open_ n q2, bind_some']
          show (s_l00Src_proof n (z2.1, z2.2.1, z2.2.2) hs (IntKind.i64.wrap (d - 2))).bind _ = _
          have q3' : s_l00Src_proof n (z2.1, z2.2.1, z2.2.2) hs (IntKind.i64.wrap (d - 2)) = some (q, a, z3) := by rw [w2]; exact q3
          rw [q3']; rfl
        have plain : Good hs p f ∧ Dr c (K + pcost (k + 1)) z3 := ⟨hg, h3.mono (by simp only [pcost]; omega)⟩
        by_cases k3 : f.kind = 3
        · obtain ⟨x, y, hf, hx, hy⟩ := two_parts hg.fm (.inr k3)
          rw [k3] at hf
          have i0 : idx f.kids 0 = some x := by rw [hf]; rfl
          have i1 : idx f.kids 1 = some y := by rw [hf]; rfl
          cases hxa : x.beq a with
          | false =>
            refine ⟨p, f, z3, (e2.and (e3.and (sameS_ev x (fmok_sm x hx)))).up 0 fun n _ ⟨q2, q3, q4⟩ => ?_, plain.1, plain.2⟩
            rw [head n q2 q3, if_pos k3, i0, bind_some', q4, bind_some', hxa, if_neg (by decide)]
          | true =>
            have hxe := beq_eq x a hxa
            subst hxe
            refine ⟨Pf.mk 6 0 [x, y] [p, q], y, z3, (e2.and (e3.and (sameS_ev x (fmok_sm x hx)))).up 0 fun n _ ⟨q2, q3, q4⟩ => ?_, ⟨fun pre at_ => ?_, hy, psm_mk (by simp) (fun g hg' => ?_) (by simp) (fun t ht => ?_)⟩, plain.2⟩
            · rw [head n q2 q3, if_pos k3, i0, bind_some', q4, bind_some', hxa, if_pos rfl, i1, bind_some', bind_some']
            · simp only [Pf.pv]
              rw [if_neg (by decide), if_neg (by decide)]
              show pvs [p, q] (pre ++ hs) [F.mk 3 0 [x, y], x] y (at_ + 1) = _
              rw [pvs_e_ok (hg.pv pre _), if_pos (by rw [hf]; exact beq_self _), pvs_e_ok (ha.pv pre _), if_pos (beq_self x)]
              simp only [pvs]
            · simp only [List.mem_cons, List.not_mem_nil, or_false] at hg'
              rcases hg' with rfl | rfl
              · exact hx
              · exact hy
            · simp only [List.mem_cons, List.not_mem_nil, or_false] at ht
              rcases ht with rfl | rfl
              · exact hg.sm
              · exact ha.sm
        · refine ⟨p, f, z3, (e2.and e3).up 0 fun n _ ⟨q2, q3⟩ => ?_, plain.1, plain.2⟩
          rw [head n q2 q3, if_neg k3]

end Go.Am.Ytaedacibojpfkaa
