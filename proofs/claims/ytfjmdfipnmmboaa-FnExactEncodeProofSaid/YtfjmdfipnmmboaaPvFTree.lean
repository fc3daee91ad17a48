/- Plain laws: the tree of a form: the reference's way and the program's. -/
import Derived.Test.YtfjmdfipnmmboaaPuBigS
import Derived.Test.YtfjmdfipnmmboaaPvForm
import Derived.Test.YtfjmdfipnmmboaaRdA
import Derived.Test.YtfjmdfipnmmboaaPuMark
namespace Go.Am.Ytfjmdfipnmmboaa
open Go Go.Am

def pname (n : Int) : ByteArray := ⟨#[112, UInt8.ofNat (48 + n.toNat)]⟩

mutual
def F.ftree : F → T
  | .mk k n ks => if k = 2 then .mk 6 0 ⟨#[97, 110, 100]⟩ (fftrees ks) else if k = 3 then .mk 6 0 ⟨#[105, 109, 112]⟩ (fftrees ks) else if k = 1 then .mk 6 0 (pname n) [] else .mk 6 0 ⟨#[98, 111, 116]⟩ []
def fftrees : List F → List T
  | [] => []
  | t :: r => F.ftree t :: fftrees r
end

theorem ffmoks_mem : ∀ {ks : List F}, ffmoks ks = true → ∀ t ∈ ks, t.fmok = true
  | [], _, t, h => by cases h
  | a :: r, h, t, ht => by
    simp only [ffmoks, Bool.and_eq_true] at h
    rcases List.mem_cons.1 ht with rfl | ht
    · exact h.1
    · exact ffmoks_mem h.2 t ht

theorem ftree_vok (t : F) : T.vok (F.ftree t) = true := by
  induction t using F.ind with
  | _ k n ks ih =>
    have : ∀ l : List F, (∀ t ∈ l, T.vok (F.ftree t) = true) → tvoks (fftrees l) = true := by
      intro l
      induction l with
      | nil => intro _; rfl
      | cons a r ih2 => intro h; simp only [fftrees, tvoks, Bool.and_eq_true]; exact ⟨h a (List.mem_cons_self ..), ih2 fun t ht => h t (List.mem_cons_of_mem _ ht)⟩
    have := this ks ih
    unfold F.ftree
    split
    · simp only [T.vok, this]; rfl
    · split
      · simp only [T.vok, this]; rfl
      · split <;> rfl

theorem ftree_nodes (t : F) : T.nodes (F.ftree t) ≤ t.size := by
  induction t using F.ind with
  | _ k n ks ih =>
    have : ∀ l : List F, (∀ t ∈ l, T.nodes (F.ftree t) ≤ t.size) → tnodes (fftrees l) ≤ fsizes l := by
      intro l
      induction l with
      | nil => intro _; exact Nat.le_refl _
      | cons a r ih2 =>
        intro h
        have h1 := h a (List.mem_cons_self ..)
        have h2 := ih2 fun t ht => h t (List.mem_cons_of_mem _ ht)
        simp only [fftrees, tnodes, fsizes]; omega
    have := this ks ih
    unfold F.ftree F.size
    split
    · simp only [T.nodes]; omega
    · split
      · simp only [T.nodes]; omega
      · split <;> (simp only [T.nodes, tnodes]; omega)

theorem pdigit_ev (n : Int) (h0 : 0 ≤ n) (h5 : n ≤ 5) (m : Nat) : ∃ r, s_l00Digits (m + 1) n = some r ∧ r.size = 1 ∧ (⟨#[112]⟩ : ByteArray) ++ r = pname n := by
  have : n = 0 ∨ n = 1 ∨ n = 2 ∨ n = 3 ∨ n = 4 ∨ n = 5 := by omega
  refine ⟨bytesOf [(IntKind.u8.wrap (IntKind.i64.wrap (48 + n)))], ?_, rfl, ?_⟩
  · rw [s_l00Digits, if_neg (by omega), if_neg (by omega), if_pos (by omega)]
  · rcases this with rfl | rfl | rfl | rfl | rfl | rfl <;> decide +kernel

theorem psub_ev (n : Int) (h0 : 0 ≤ n) (h5 : n ≤ 5) : strSub (⟨#[112, 48, 112, 49, 112, 50, 112, 51, 112, 52, 112, 53]⟩ : ByteArray) (IntKind.i64.wrap (2 * n)) (IntKind.i64.wrap ((IntKind.i64.wrap (2 * n)) + 2)) = some (pname n) := by
  have : n = 0 ∨ n = 1 ∨ n = 2 ∨ n = 3 ∨ n = 4 ∨ n = 5 := by omega
  rcases this with rfl | rfl | rfl | rfl | rfl | rfl <;> decide +kernel

theorem fm_cases {k n : Int} {ks : List F} (h : (F.mk k n ks).fmok = true) :
    (k = 1 ∧ 0 ≤ n ∧ n ≤ 5 ∧ ks = []) ∨ ((k = 2 ∨ k = 3) ∧ n = 0 ∧ ∃ a b, ks = [a, b] ∧ a.fmok = true ∧ b.fmok = true) ∨ (k = 4 ∧ n = 0 ∧ ks = []) := by
  rw [fmok_eq] at h
  by_cases h1 : k = 1
  · rw [if_pos h1] at h
    simp only [Bool.and_eq_true, decide_eq_true_eq] at h
    exact .inl ⟨h1, h.1, h.2.1, List.length_eq_zero_iff.1 h.2.2⟩
  · rw [if_neg h1] at h
    by_cases h2 : k = 2 ∨ k = 3
    · rw [if_pos h2] at h
      simp only [Bool.and_eq_true, decide_eq_true_eq] at h
      match ks, h with
      | [a, b], h =>
        have := ffmoks_mem h.2.2
        exact .inr (.inl ⟨h2, h.1, a, b, rfl, this a (by simp), this b (by simp)⟩)
      | [], h => simp at h
      | [a], h => simp at h
      | a :: b :: c :: r, h => simp at h
    · rw [if_neg h2] at h
      by_cases h4 : k = 4
      · rw [if_pos h4] at h
        simp only [Bool.and_eq_true, decide_eq_true_eq] at h
        exact .inr (.inr ⟨h4, h.1, List.length_eq_zero_iff.1 h.2⟩)
      · rw [if_neg h4] at h; cases h

theorem formTree_ev (t : F) (h : t.fmok = true) : Ev fun n => s_l08Tree n t = some (F.ftree t) ∧ i_formTerm n t = some (F.ftree t) := by
  induction t using F.ind with
  | _ k n ks ih =>
    rcases fm_cases h with ⟨rfl, h0, h5, rfl⟩ | ⟨hk, rfl, a, b, rfl, ha, hb⟩ | ⟨rfl, rfl, rfl⟩
    · refine ⟨2, fun m hm => ?_⟩
      obtain ⟨m, rfl⟩ : ∃ q, m = q + 2 := ⟨m - 2, by omega⟩
      obtain ⟨r, hr, hs, he⟩ := pdigit_ev n h0 h5 m
      have ht : F.ftree (F.mk 1 n []) = T.mk 6 0 (pname n) [] := by unfold F.ftree; rw [if_neg (by decide), if_neg (by decide), if_pos rfl]
      rw [ht]
      constructor
      · rw [s_l08Tree, if_pos (show (F.mk 1 n []).kind = 1 from rfl), show (F.mk 1 n []).n = n from rfl, hr, bind_some', chk_of (by rw [hs]; decide), he]
      · rw [i_formTerm, if_pos (show (F.mk 1 n []).kind = 1 from rfl), show (F.mk 1 n []).n = n from rfl, psub_ev n h0 h5, bind_some']
    · refine ((ih a (by simp) ha).and (ih b (by simp) hb)).up 0 fun m _ H => ?_
      obtain ⟨⟨a1, a2⟩, b1, b2⟩ := H
      rcases hk with rfl | rfl
      · have ht : F.ftree (F.mk 2 0 [a, b]) = T.mk 6 0 ⟨#[97, 110, 100]⟩ [F.ftree a, F.ftree b] := by rw [F.ftree, if_pos rfl]; rfl
        rw [ht]
        constructor
        · rw [s_l08Tree, if_neg (show ¬ (F.mk 2 0 [a, b]).kind = 1 from (by decide : ¬ (2 : Int) = 1)), if_pos (show (F.mk 2 0 [a, b]).kind = 2 from rfl), show idx (F.mk 2 0 [a, b]).kids 0 = some a from rfl, show idx (F.mk 2 0 [a, b]).kids 1 = some b from rfl, bind_some', bind_some', a1, b1, bind_some', bind_some']
        · rw [i_formTerm, if_neg (show ¬ (F.mk 2 0 [a, b]).kind = 1 from (by decide : ¬ (2 : Int) = 1)), if_neg (show ¬ (F.mk 2 0 [a, b]).kind = 4 from (by decide : ¬ (2 : Int) = 4)), if_pos (show (F.mk 2 0 [a, b]).kind = 2 from rfl), show idx (F.mk 2 0 [a, b]).kids 0 = some a from rfl, show idx (F.mk 2 0 [a, b]).kids 1 = some b from rfl, bind_some', bind_some', a2, b2, bind_some', bind_some']
      · have ht : F.ftree (F.mk 3 0 [a, b]) = T.mk 6 0 ⟨#[105, 109, 112]⟩ [F.ftree a, F.ftree b] := by rw [F.ftree, if_neg (by decide), if_pos rfl]; rfl
        rw [ht]
        constructor
        · rw [s_l08Tree, if_neg (show ¬ (F.mk 3 0 [a, b]).kind = 1 from (by decide : ¬ (3 : Int) = 1)), if_neg (show ¬ (F.mk 3 0 [a, b]).kind = 2 from (by decide : ¬ (3 : Int) = 2)), if_pos (show (F.mk 3 0 [a, b]).kind = 3 from rfl), show idx (F.mk 3 0 [a, b]).kids 0 = some a from rfl, show idx (F.mk 3 0 [a, b]).kids 1 = some b from rfl, bind_some', bind_some', a1, b1, bind_some', bind_some']
        · rw [i_formTerm, if_neg (show ¬ (F.mk 3 0 [a, b]).kind = 1 from (by decide : ¬ (3 : Int) = 1)), if_neg (show ¬ (F.mk 3 0 [a, b]).kind = 4 from (by decide : ¬ (3 : Int) = 4)), if_neg (show ¬ (F.mk 3 0 [a, b]).kind = 2 from (by decide : ¬ (3 : Int) = 2)), show idx (F.mk 3 0 [a, b]).kids 0 = some a from rfl, show idx (F.mk 3 0 [a, b]).kids 1 = some b from rfl, bind_some', bind_some', a2, b2, bind_some', bind_some']
    · refine ⟨1, fun m hm => ?_⟩
      obtain ⟨m, rfl⟩ : ∃ q, m = q + 1 := ⟨m - 1, by omega⟩
      have ht : F.ftree (F.mk 4 0 []) = T.mk 6 0 ⟨#[98, 111, 116]⟩ [] := by unfold F.ftree; rw [if_neg (by decide), if_neg (by decide), if_neg (by decide)]
      rw [ht]
      constructor
      · rw [s_l08Tree, if_neg (show ¬ (F.mk 4 0 []).kind = 1 from (by decide : ¬ (4 : Int) = 1)), if_neg (show ¬ (F.mk 4 0 []).kind = 2 from (by decide : ¬ (4 : Int) = 2)), if_neg (show ¬ (F.mk 4 0 []).kind = 3 from (by decide : ¬ (4 : Int) = 3))]
      · rw [i_formTerm, if_neg (show ¬ (F.mk 4 0 []).kind = 1 from (by decide : ¬ (4 : Int) = 1)), if_pos (show (F.mk 4 0 []).kind = 4 from rfl)]

/-- The family that says that a form has a proof. -/
def pf (t : T) : T := T.mk 3 0 ⟨#[112, 102]⟩ [t]
theorem pf_nodes (t : T) : T.nodes (pf t) = 1 + T.nodes t := by unfold pf; simp only [T.nodes, tnodes, Nat.add_zero]
theorem pf_vok {t : T} (h : T.vok t = true) : T.vok (pf t) = true := by unfold pf; simp only [T.vok, tvoks, h]; rfl

end Go.Am.Ytfjmdfipnmmboaa
