/- Plain laws: the law MoreHyps: a drawn proof proves the same with one hypothesis more ahead of all. -/
import Derived.Test.YtaedacibojpfkaaPdProof
import Derived.Test.YtaedacibojpfkaaPuHypS
import Derived.Test.YtaedacibojpfkaaGwMoreHyps
import Derived.Test.YtaedacibojpfkaaRdA
namespace Go.Am.Ytaedacibojpfkaa
open Go Go.Am

theorem iProves_ev (l : List F) (p : Pf) (hl : ∀ t ∈ l, t.sm) (hp : p.sm) (h12 : l.length ≤ 12) (hg : l.all hgd = true) (hB : (decide (p.size ≤ 150) && p.prok) = true) {f : F} (hz : p.pv l 0 = .ok f) : Ev fun n => i_Proves n l p = some (f, 0, 0) := by
  have hB2 := hB
  simp only [Bool.and_eq_true, decide_eq_true_eq] at hB2
  have hps := ppsz_le p
  have hcs : (p.concl l).sm := concl_sm hp hl
  refine ((longs_ev l).and ((hypsOK_ev l (by omega) hl).and ((implProofOK_ev p hp).and ((proves_ev p hB2.2 hp (by omega) l hl (by omega)).and (clone_ev _ hcs))))).mp fun n h => ?_
  obtain ⟨h1, ⟨_, h3⟩, h5, h6, h7⟩ := h
  obtain ⟨h6i, _⟩ := h6 0 (by omega) (by omega)
  have hA : (decide (l.length ≤ 12) && l.all hgd) = true := by rw [hg, decide_eq_true h12]; rfl
  rw [hA] at h3
  rw [hB] at h5
  unfold i_Proves i_Proves_c1
  rw [h1, bind_some', if_neg (by simp; omega), h3, bind_some', if_neg (by decide), h5, bind_some', if_neg (by decide), h6i, zb_some, hz]
  obtain rfl := pv_ok hz
  show (if ((0 : Int) != 0) = true then some (F.mk 0 0 [], (0 : Int), (0 : Int)) else (i_cloneForm n (p.concl l)).bind fun r39 => some (r39, (0 : Int), (0 : Int))) = some (p.concl l, 0, 0)
  rw [if_neg (by decide), h7]; rfl

theorem wsame_lp (rec : F → F → Option Bool) (x : F) (hl : x.kids.length ≤ 1048576) (H : ∀ y ∈ x.kids, rec y y = some true) :
    ∀ (r a : List F) (m : Nat), x.kids = a ++ r → r.length < m → w_sameForm_L1 rec x x m a.length = some true
  | [], a, m, e, hm => by
    obtain ⟨m, rfl⟩ : ∃ k, m = k + 1 := ⟨m - 1, by omega⟩
    rw [w_sameForm_L1, e, if_neg (lt_end a)]
  | y :: r, a, m, e, hm => by
    obtain ⟨m, rfl⟩ : ∃ k, m = k + 1 := ⟨m - 1, by simp at hm; omega⟩
    have hlen : (a ++ y :: r).length ≤ 9223372036854775807 := by rw [← e]; omega
    rw [w_sameForm_L1, e, if_pos (lt_mid a y r), idx_mid, bind_some', bind_some', H y (by rw [e]; simp), bind_some', if_neg (by decide), w64_mid a y r hlen]
    exact wsame_lp rec x hl H r (a ++ [y]) m (by rw [e]; simp) (by simp at hm; omega)

theorem wsame_ev (t : F) : t.sm → Ev fun n => w_sameForm n t t = some true := by
  induction t using F.ind with
  | _ k n ks ih =>
    intro hsm
    have hk := fsm_kids hsm
    refine (Ev.all (p := fun y n => w_sameForm n y y = some true) fun y hy => ih y hy (hk.2 y hy)).up (ks.length + 1) fun n hn h => ?_
    rw [w_sameForm, if_neg (by simp), if_neg (by simp), if_neg (by simp)]
    exact wsame_lp (w_sameForm n) (F.mk k _ ks) hk.1 h ks [] n rfl (by omega)

theorem lawMoreHyps_ev (l1 l2 : List Int) (h1 : ∀ b ∈ l1, 0 ≤ b ∧ b ≤ 255) (h2 : ∀ b ∈ l2, 0 ≤ b ∧ b ≤ 255) : Ev fun n => w_FnMoreHyps n l1 l2 = some true := by
  by_cases b1 : ((l1).length : Int) > 1048576
  · refine .of fun n => ?_
    unfold w_FnMoreHyps; rw [if_pos b1]
  by_cases b2 : ((l2).length : Int) > 1048576
  · refine .of fun n => ?_
    unfold w_FnMoreHyps; rw [if_neg b1, if_pos b2]
  have hc1 : Byt l1 := ⟨by omega, h1⟩
  have hc2 : Byt l2 := ⟨by omega, h2⟩
  obtain ⟨hs, z1, e1, a1, a2, d1⟩ := hyps_dr hc1 Dr.start (by omega) (by omega)
  obtain ⟨r, z2, e2, r0, r1, d2⟩ := next_dr hc1 d1 (by omega) (n := 5) (by omega) (by omega)
  have hpc : pcost r.toNat ≤ 10000 := by
    have : r.toNat = 0 ∨ r.toNat = 1 ∨ r.toNat = 2 ∨ r.toNat = 3 ∨ r.toNat = 4 := by omega
    rcases this with h | h | h | h | h <;> rw [h] <;> decide
  obtain ⟨p, f, z3, e3, hg, _⟩ := proof_dr hc1 r.toNat r (hs := hs) rfl (by omega) (by omega) d2 (by omega) (by omega) (fun f hf => (a2 f hf).1) (by omega)
  obtain ⟨s, z4, e4, s0, s1, d4⟩ := next_dr hc2 Dr.start (by omega) (n := 4) (by omega) (by omega)
  have hfc : fcost s.toNat ≤ 1000 ∧ fnods s.toNat ≤ 15 := by
    have : s.toNat = 0 ∨ s.toNat = 1 ∨ s.toNat = 2 ∨ s.toNat = 3 := by omega
    rcases this with h | h | h | h <;> rw [h] <;> decide
  obtain ⟨x, z5, e5, x1, x2, _⟩ := form_dr hc2 s.toNat d4 (by omega) (by omega) (by omega)
  rw [show ((s.toNat : Nat) : Int) = s by omega] at e5
  have hProof : Ev fun n => s_ProofOf n l1 = some (hs, p, f) := (e1.and e3).mp fun n ⟨q1, q3⟩ => by
    have e2' : s_l00Src_next (z1.1, z1.2.1, z1.2.2) 5 = some (r, z2) := e2
    have q3' : s_l00Src_proof n (z2.1, z2.2.1, z2.2.2) hs r = some (p, f, z3) := q3
    unfold s_ProofOf
    rw [q1, bind_some']
    show (s_l00Src_next (z1.1, z1.2.1, z1.2.2) 5).bind _ = _
    rw [e2', bind_some']
    show (s_l00Src_proof n (z2.1, z2.2.1, z2.2.2) hs r).bind _ = _
    rw [q3']; rfl
  have hForm : Ev fun n => s_FormOf n l2 = some x := e5.mp fun n q5 => by
    have q5' : s_l00Src_form n (z4.1, z4.2.1, z4.2.2) s = some (x, z5) := q5
    unfold s_FormOf
    rw [e4, bind_some']
    show (s_l00Src_form n (z4.1, z4.2.1, z4.2.2) s).bind _ = _
    rw [q5']; rfl
  have head : ∀ n, s_ProofOf n l1 = some (hs, p, f) → s_ProofOK n p = some (decide (p.size ≤ 150) && p.prok) → w_FnMoreHyps n l1 l2 = (if (!(decide (p.size ≤ 150) && p.prok)) = true then some true else (s_FormOf n l2).bind fun r30 =>
      chk (([r30]).length + hs.length ≤ 1099511627776) <| (i_Proves n ([r30] ++ hs) p).bind fun r38 => if r38.2.1 = 0 then (w_sameForm n f r38.1).bind fun r56 => some r56 else some false) := by
    intro n q1 q2
    unfold w_FnMoreHyps
    rw [if_neg b1, if_neg b2, q1, bind_some']
    show (s_ProofOK n p).bind _ = _
    rw [q2]; rfl
  cases hok : (decide (p.size ≤ 150) && p.prok) with
  | false =>
    refine (hProof.and (specProofOK_ev p hg.sm)).mp fun n ⟨q1, q2⟩ => ?_
    rw [head n q1 q2, hok, if_pos (by decide)]
  | true =>
    have hall : ∀ t ∈ x :: hs, t.fmok = true ∧ t.size ≤ 15 := fun t ht => by
      rcases List.mem_cons.1 ht with rfl | ht
      · exact ⟨x1, by omega⟩
      · have := a2 t ht; exact ⟨this.1, by omega⟩
    have hpv : p.pv (x :: hs) 0 = .ok f := hg.pv [x] 0
    refine (hProof.and ((specProofOK_ev p hg.sm).and (hForm.and ((iProves_ev (x :: hs) p (fun t ht => fmok_sm t (hall t ht).1) hg.sm (by simp; omega) (List.all_eq_true.2 fun t ht => by unfold hgd; rw [(hall t ht).1, decide_eq_true (by have := (hall t ht).2; omega)]; rfl) hok hpv).and (wsame_ev f (fmok_sm f hg.fm)))))).mp fun n ⟨q1, q2, q3, q4, q5⟩ => ?_
    rw [head n q1 q2, hok, if_neg (by decide), q3, bind_some', chk_of (by simp; omega)]
    show (i_Proves n (x :: hs) p).bind _ = _
    rw [q4, bind_some']
    show (if (0 : Int) = 0 then (w_sameForm n f f).bind fun r56 => some r56 else some false) = _
    rw [if_pos rfl, q5]; rfl

theorem lawFnMoreHyps_ok (l1 l2 : List Int) (h1 : ∀ b ∈ l1, 0 ≤ b ∧ b ≤ 255) (h2 : ∀ b ∈ l2, 0 ≤ b ∧ b ≤ 255) :
    ∀ tk, 2 ≤ tk → ACalls Go.Proofs.Try.prog 3 [.imm 0 1 false (l1.map fun n => [.int .u8 n]), .imm 0 1 false (l2.map fun n => [.int .u8 n])] (fun _ => none) tk (RetX (fun _ => none) tk (fun v _ => v = .bool true)) := by
  intro tk _
  obtain ⟨n, hn⟩ := (lawMoreHyps_ev l1 l2 h1 h2).get
  exact w_FnMoreHyps_ok n 0 false l1 0 false l2 hn _ _

end Go.Am.Ytaedacibojpfkaa
