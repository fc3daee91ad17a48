/- Plain laws: the tree of a proof: the reference's way and the program's. -/
import Derived.Test.YtfjmdfipnmmboaaPvFTree
import Derived.Test.YtfjmdfipnmmboaaPvProof
import Derived.Test.YtfjmdfipnmmboaaMxProof
namespace Go.Am.Ytfjmdfipnmmboaa
open Go Go.Am

def rname (k : Int) : ByteArray := if k = 2 then ⟨#[97, 110, 100, 73]⟩ else if k = 3 then ⟨#[102, 115, 116]⟩ else if k = 4 then ⟨#[115, 110, 100]⟩ else if k = 5 then ⟨#[102, 117, 110, 73]⟩ else if k = 6 then ⟨#[117, 115, 101]⟩ else if k = 7 then ⟨#[98, 111, 116, 69]⟩ else ⟨#[]⟩
def lamk (k : Int) (t : T) : T := if k = 5 then T.mk 4 0 ⟨#[]⟩ [t] else t

mutual
def Pf.ptree : Pf → T
  | .mk k n fs ks => if k = 1 then .mk 5 n ⟨#[]⟩ [] else .mk 6 0 (rname k) (fftrees fs ++ pptrees k ks)
def pptrees (k : Int) : List Pf → List T
  | [] => []
  | t :: r => lamk k (Pf.ptree t) :: pptrees k r
end

theorem chk_snoc {β : Type} {acc : List T} {t : T} {k : Option β} (h : acc.length ≤ 3000000) : chk (acc.length + [t].length ≤ 1099511627776) k = k := chk_of (by simp; omega)

theorem iproof_loop2 (rec : Pf → Option T) (x : Pf) (nm : ByteArray) (hl : x.kids.length ≤ 1048576) (H : ∀ y ∈ x.kids, rec y = some (Pf.ptree y)) :
    ∀ (r a : List Pf) (m : Nat) (acc : List T), x.kids = a ++ r → r.length < m → acc.length + r.length ≤ 3000000 → i_proofTerm_L2 rec x nm m a.length acc = some (T.mk 6 0 nm (acc ++ pptrees x.kind r))
  | [], a, m, acc, e, hm, _ => by
    obtain ⟨m, rfl⟩ : ∃ k, m = k + 1 := ⟨m - 1, by omega⟩
    rw [i_proofTerm_L2, e, if_neg (lt_end a), pptrees, List.append_nil]
  | y :: r, a, m, acc, e, hm, hc => by
    obtain ⟨m, rfl⟩ : ∃ k, m = k + 1 := ⟨m - 1, by omega⟩
    have hy : y ∈ x.kids := by rw [e]; simp
    have hw : IntKind.i64.wrap ((a.length : Int) + 1) = ((a ++ [y]).length : Int) := w64_mid a y r (by rw [← e]; omega)
    simp only [List.length_cons] at hm hc
    rw [i_proofTerm_L2, if_pos (show (a.length : Int) < (x.kids.length : Int) by rw [e]; exact lt_mid a y r), show idx x.kids (a.length : Int) = some y by rw [e]; exact idx_mid a y r, bind_some', H y hy, bind_some', chk_snoc (by omega), chk_snoc (by omega), hw]
    have key : (if x.kind = 5 then i_proofTerm_L2 rec x nm m ((a ++ [y]).length : Int) (acc ++ [T.mk 4 0 ⟨#[]⟩ [(Pf.ptree y)]]) else i_proofTerm_L2 rec x nm m ((a ++ [y]).length : Int) (acc ++ [(Pf.ptree y)])) = i_proofTerm_L2 rec x nm m ((a ++ [y]).length : Int) (acc ++ [lamk x.kind (Pf.ptree y)]) := by
      unfold lamk
      by_cases h5 : x.kind = 5
      · rw [if_pos h5, if_pos h5]
      · rw [if_neg h5, if_neg h5]
    rw [key, iproof_loop2 rec x nm hl H r (a ++ [y]) m _ (by simp [e]) (by omega) (by simp; omega), pptrees]
    simp

theorem iproof_loop1 (rec : Pf → Option T) (n : Nat) (x : Pf) (nm : ByteArray) (hl : x.kids.length ≤ 1048576) (hf : x.forms.length ≤ 1048576) (hn : x.kids.length < n) (H : ∀ y ∈ x.kids, rec y = some (Pf.ptree y)) (HF : ∀ y ∈ x.forms, i_formTerm n y = some (F.ftree y)) :
    ∀ (r a : List F) (m : Nat) (acc : List T), x.forms = a ++ r → r.length < m → acc.length + r.length ≤ 1048576 → i_proofTerm_L1 rec n x nm m a.length acc = some (T.mk 6 0 nm (acc ++ fftrees r ++ pptrees x.kind x.kids))
  | [], a, m, acc, e, hm, hc => by
    obtain ⟨m, rfl⟩ : ∃ k, m = k + 1 := ⟨m - 1, by omega⟩
    rw [i_proofTerm_L1, e, if_neg (lt_end a), fftrees, List.append_nil]
    simp only [List.length_nil] at hc
    exact iproof_loop2 rec x nm hl H x.kids [] n acc rfl hn (by omega)
  | y :: r, a, m, acc, e, hm, hc => by
    obtain ⟨m, rfl⟩ : ∃ k, m = k + 1 := ⟨m - 1, by omega⟩
    have hy : y ∈ x.forms := by rw [e]; simp
    simp only [List.length_cons] at hm hc
    rw [i_proofTerm_L1, if_pos (show (a.length : Int) < (x.forms.length : Int) by rw [e]; exact lt_mid a y r), show idx x.forms (a.length : Int) = some y by rw [e]; exact idx_mid a y r, bind_some', HF y hy, bind_some', chk_snoc (by omega),
      show IntKind.i64.wrap ((a.length : Int) + 1) = ((a ++ [y]).length : Int) from w64_mid a y r (by rw [← e]; omega), iproof_loop1 rec n x nm hl hf hn H HF r (a ++ [y]) m _ (by simp [e]) (by omega) (by simp; omega), fftrees]
    simp

theorem sproof_loop2 (rec : Pf → Option T) (x : Pf) (hx : 2 ≤ x.kind ∧ x.kind ≤ 7) (hl : x.kids.length ≤ 1048576) (H : ∀ y ∈ x.kids, rec y = some (Pf.ptree y)) :
    ∀ (r a : List Pf) (m : Nat) (acc : List T), x.kids = a ++ r → r.length < m → acc.length + r.length ≤ 3000000 → s_l08Encode_L2 rec x m a.length acc = some (T.mk 6 0 (rname x.kind) (acc ++ pptrees x.kind r))
  | [], a, m, acc, e, hm, _ => by
    obtain ⟨m, rfl⟩ : ∃ k, m = k + 1 := ⟨m - 1, by omega⟩
    rw [s_l08Encode_L2, e, if_neg (lt_end a), pptrees, List.append_nil]
    have hk : x.kind = 2 ∨ x.kind = 3 ∨ x.kind = 4 ∨ x.kind = 5 ∨ x.kind = 6 ∨ x.kind = 7 := by omega
    rcases hk with h | h | h | h | h | h <;> rw [h] <;> rfl
  | y :: r, a, m, acc, e, hm, hc => by
    obtain ⟨m, rfl⟩ : ∃ k, m = k + 1 := ⟨m - 1, by omega⟩
    have hy : y ∈ x.kids := by rw [e]; simp
    have hw : IntKind.i64.wrap ((a.length : Int) + 1) = ((a ++ [y]).length : Int) := w64_mid a y r (by rw [← e]; omega)
    simp only [List.length_cons] at hm hc
    rw [s_l08Encode_L2, if_pos (show (a.length : Int) < (x.kids.length : Int) by rw [e]; exact lt_mid a y r), show idx x.kids (a.length : Int) = some y by rw [e]; exact idx_mid a y r, bind_some', H y hy, bind_some', chk_snoc (by omega), chk_snoc (by omega), hw]
    have key : (if x.kind = 5 then s_l08Encode_L2 rec x m ((a ++ [y]).length : Int) (acc ++ [T.mk 4 0 ⟨#[]⟩ [(Pf.ptree y)]]) else s_l08Encode_L2 rec x m ((a ++ [y]).length : Int) (acc ++ [(Pf.ptree y)])) = s_l08Encode_L2 rec x m ((a ++ [y]).length : Int) (acc ++ [lamk x.kind (Pf.ptree y)]) := by
      unfold lamk
      by_cases h5 : x.kind = 5
      · rw [if_pos h5, if_pos h5]
      · rw [if_neg h5, if_neg h5]
    rw [key, sproof_loop2 rec x hx hl H r (a ++ [y]) m _ (by simp [e]) (by omega) (by simp; omega), pptrees]
    simp

theorem sproof_loop1 (rec : Pf → Option T) (n : Nat) (x : Pf) (hx : 2 ≤ x.kind ∧ x.kind ≤ 7) (hl : x.kids.length ≤ 1048576) (hf : x.forms.length ≤ 1048576) (hn : x.kids.length < n) (H : ∀ y ∈ x.kids, rec y = some (Pf.ptree y)) (HF : ∀ y ∈ x.forms, s_l08Tree n y = some (F.ftree y)) :
    ∀ (r a : List F) (m : Nat) (acc : List T), x.forms = a ++ r → r.length < m → acc.length + r.length ≤ 1048576 → s_l08Encode_L1 rec n x m a.length acc = some (T.mk 6 0 (rname x.kind) (acc ++ fftrees r ++ pptrees x.kind x.kids))
  | [], a, m, acc, e, hm, hc => by
    obtain ⟨m, rfl⟩ : ∃ k, m = k + 1 := ⟨m - 1, by omega⟩
    rw [s_l08Encode_L1, e, if_neg (lt_end a), fftrees, List.append_nil]
    simp only [List.length_nil] at hc
    exact sproof_loop2 rec x hx hl H x.kids [] n acc rfl hn (by omega)
  | y :: r, a, m, acc, e, hm, hc => by
    obtain ⟨m, rfl⟩ : ∃ k, m = k + 1 := ⟨m - 1, by omega⟩
    have hy : y ∈ x.forms := by rw [e]; simp
    simp only [List.length_cons] at hm hc
    rw [s_l08Encode_L1, if_pos (show (a.length : Int) < (x.forms.length : Int) by rw [e]; exact lt_mid a y r), show idx x.forms (a.length : Int) = some y by rw [e]; exact idx_mid a y r, bind_some', HF y hy, bind_some', chk_snoc (by omega),
      show IntKind.i64.wrap ((a.length : Int) + 1) = ((a ++ [y]).length : Int) from w64_mid a y r (by rw [← e]; omega), sproof_loop1 rec n x hx hl hf hn H HF r (a ++ [y]) m _ (by simp [e]) (by omega) (by simp; omega), fftrees]
    simp

theorem proks_mem : ∀ {ks : List Pf}, proks ks = true → ∀ t ∈ ks, t.prok = true
  | [], _, t, h => by cases h
  | a :: r, h, t, ht => by
    simp only [proks, Bool.and_eq_true] at h
    rcases List.mem_cons.1 ht with rfl | ht
    · exact h.1
    · exact proks_mem h.2 t ht

/-- What a right proof's parts are. -/
theorem prok_parts {k n : Int} {fs : List F} {ks : List Pf} (h : (Pf.mk k n fs ks).prok = true) : (k = 1 ∧ 0 ≤ n ∧ n ≤ 100 ∧ fs = [] ∧ ks = []) ∨ (2 ≤ k ∧ k ≤ 7 ∧ n = 0 ∧ (∀ f ∈ fs, f.fmok = true) ∧ ∀ t ∈ ks, t.prok = true) := by
  rw [prok_eq] at h
  simp only [Bool.and_eq_true, decide_eq_true_eq, Bool.or_eq_true] at h
  obtain ⟨h0, h1, h2, h3, h4, h5, h6, h7⟩ := h
  unfold shape at h0 h1 h2
  by_cases k1 : k = 1
  · subst k1
    simp only [if_true] at h1 h2
    exact .inl ⟨rfl, h3, h4, List.length_eq_zero_iff.1 (by omega), List.length_eq_zero_iff.1 (by omega)⟩
  · refine .inr ⟨?_, ?_, h5.resolve_left k1, ffmoks_mem h6, proks_mem h7⟩
    · by_cases h : 2 ≤ k
      · exact h
      · rw [if_neg k1, if_neg (by omega), if_neg (by omega), if_neg (by omega)] at h0; omega
    · by_cases h : k ≤ 7
      · exact h
      · rw [if_neg k1, if_neg (by omega), if_neg (by omega), if_neg (by omega)] at h0; omega

theorem proofTree_ev (t : Pf) (h : t.prok = true) (hsm : t.sm) : Ev fun n => s_l08Encode n t = some (Pf.ptree t) ∧ i_proofTerm n t = some (Pf.ptree t) := by
  induction t using Pf.ind with
  | _ k n fs ks ih =>
    obtain ⟨⟨hfl, hfs⟩, hl, hks⟩ := psm_kids hsm
    rcases prok_parts h with ⟨rfl, h0, h1, rfl, rfl⟩ | ⟨k2, k7, rfl, hF, hP⟩
    · refine ⟨1, fun m hm => ?_⟩
      obtain ⟨m, rfl⟩ : ∃ q, m = q + 1 := ⟨m - 1, by omega⟩
      have ht : Pf.ptree (Pf.mk 1 n [] []) = T.mk 5 n ⟨#[]⟩ [] := by rw [Pf.ptree, if_pos rfl]
      rw [ht]
      constructor
      · rw [s_l08Encode, if_pos (show (Pf.mk 1 n [] []).kind = 1 from rfl)]; rfl
      · rw [i_proofTerm, if_pos (show (Pf.mk 1 n [] []).kind = 1 from rfl)]; rfl
    · refine ((Ev.all (l := fs) fun f hf => formTree_ev f (hF f hf)).and (Ev.all (l := ks) fun t ht => ih t ht (hP t ht) (hks t ht))).up (ks.length + fs.length + 1) fun m hm ⟨HF, HP⟩ => ?_
      have ht : Pf.ptree (Pf.mk k 0 fs ks) = T.mk 6 0 (rname k) (fftrees fs ++ pptrees k ks) := by rw [Pf.ptree, if_neg (by omega)]
      rw [ht]
      constructor
      · rw [s_l08Encode, if_neg (show ¬ (Pf.mk k 0 fs ks).kind = 1 by show ¬ k = 1; omega)]
        have := sproof_loop1 (s_l08Encode m) m (Pf.mk k 0 fs ks) ⟨k2, k7⟩ hl hfl (by show ks.length < m; omega) (fun y hy => (HP y hy).1) (fun y hy => (HF y hy).1) fs [] m [] rfl (by omega) (by simpa using hfl)
        rw [List.nil_append] at this
        exact this
      · have hbody : ∀ nm : ByteArray, (if 0 < (((Pf.mk k 0 fs ks).forms).length : Int) then
          (idx (Pf.mk k 0 fs ks).forms 0).bind fun y58 =>
          (i_formTerm m y58).bind fun r63 =>
          chk ((([] : List T)).length + ([r63]).length ≤ 1099511627776) <|
          i_proofTerm_L1 (i_proofTerm m) m (Pf.mk k 0 fs ks) nm m (IntKind.i64.wrap (0 + 1)) (([] : List T) ++ [r63])
        else
          if 0 < (((Pf.mk k 0 fs ks).kids).length : Int) then
            (idx (Pf.mk k 0 fs ks).kids 0).bind fun y99 =>
            (i_proofTerm m y99).bind fun r104 =>
            if (Pf.mk k 0 fs ks).kind = 5 then
              chk ((([] : List T)).length + ([(T.mk 4 0 ⟨#[]⟩ [r104])]).length ≤ 1099511627776) <|
              i_proofTerm_L2 (i_proofTerm m) (Pf.mk k 0 fs ks) nm m (IntKind.i64.wrap (0 + 1)) (([] : List T) ++ [(T.mk 4 0 ⟨#[]⟩ [r104])])
            else
              chk ((([] : List T)).length + ([r104]).length ≤ 1099511627776) <|
              i_proofTerm_L2 (i_proofTerm m) (Pf.mk k 0 fs ks) nm m (IntKind.i64.wrap (0 + 1)) (([] : List T) ++ [r104])
          else
            some (T.mk 6 0 nm [])) = some (T.mk 6 0 nm (fftrees fs ++ pptrees k ks)) := by
          intro nm
          have hw : IntKind.i64.wrap (0 + 1) = (1 : Int) := rfl
          rw [pforms, pkids, pkind, hw]
          cases fs with
          | cons f fs =>
            have := iproof_loop1 (i_proofTerm m) m (Pf.mk k 0 (f :: fs) ks) nm hl hfl (by show ks.length < m; omega) (fun y hy => (HP y hy).2) (fun y hy => (HF y hy).2) fs [f] m [F.ftree f] rfl (by simp at hm; omega) (by simp at hfl ⊢; omega)
            rw [if_pos (by simp), show idx (f :: fs) 0 = some f from rfl, bind_some', (HF f (List.mem_cons_self ..)).2, bind_some', chk_snoc (by simp)]
            exact this
          | nil =>
            rw [if_neg (by simp)]
            cases ks with
            | nil => rw [if_neg (by simp)]; rfl
            | cons t ks =>
              have := iproof_loop2 (i_proofTerm m) (Pf.mk k 0 [] (t :: ks)) nm hl (fun y hy => (HP y hy).2) ks [t] m [lamk k (Pf.ptree t)] rfl (by simp at hm; omega) (by simp at hl ⊢; omega)
              rw [if_pos (by simp), show idx (t :: ks) 0 = some t from rfl, bind_some', (HP t (List.mem_cons_self ..)).2, bind_some', chk_snoc (by simp), chk_snoc (by simp)]
              have key : (if k = 5 then i_proofTerm_L2 (i_proofTerm m) (Pf.mk k 0 [] (t :: ks)) nm m 1 (([] : List T) ++ [T.mk 4 0 ⟨#[]⟩ [(Pf.ptree t)]]) else i_proofTerm_L2 (i_proofTerm m) (Pf.mk k 0 [] (t :: ks)) nm m 1 (([] : List T) ++ [(Pf.ptree t)])) = i_proofTerm_L2 (i_proofTerm m) (Pf.mk k 0 [] (t :: ks)) nm m 1 [lamk k (Pf.ptree t)] := by
                unfold lamk
                by_cases h5 : k = 5
                · rw [if_pos h5, if_pos h5]; rfl
                · rw [if_neg h5, if_neg h5]; rfl
              rw [key]
              exact this
        rw [i_proofTerm, if_neg (show ¬ (Pf.mk k 0 fs ks).kind = 1 by show ¬ k = 1; omega), jn_eq]
        simp only [hbody]
        have hk : k = 2 ∨ k = 3 ∨ k = 4 ∨ k = 5 ∨ k = 6 ∨ k = 7 := by omega
        rcases hk with rfl | rfl | rfl | rfl | rfl | rfl <;> rfl

end Go.Am.Ytfjmdfipnmmboaa
