/- Plain laws: the tree of a type: the reference's way and the program's; the law of EncodeType. -/
import Derived.Test.YtgbmcnmepfpjiaaPuBig
import Derived.Test.YtgbmcnmepfpjiaaPvType
import Derived.Test.YtgbmcnmepfpjiaaMwEType
import Derived.Test.YtgbmcnmepfpjiaaRdA
import Derived.Test.YtgbmcnmepfpjiaaPuMark
namespace Go.Am.Ytgbmcnmepfpjiaa
open Go Go.Am

def bname (n : Int) : ByteArray := ⟨#[98, UInt8.ofNat (48 + n.toNat)]⟩

mutual
def F.ttree : F → T
  | .mk k n ks => if k = 2 then .mk 6 0 ⟨#[97, 114, 114]⟩ (fttrees ks) else .mk 6 0 (bname n) []
def fttrees : List F → List T
  | [] => []
  | t :: r => F.ttree t :: fttrees r
end

theorem ftyoks_mem : ∀ {ks : List F}, ftyoks ks = true → ∀ t ∈ ks, t.tyok = true
  | [], _, t, h => by cases h
  | a :: r, h, t, ht => by
    simp only [ftyoks, Bool.and_eq_true] at h
    rcases List.mem_cons.1 ht with rfl | ht
    · exact h.1
    · exact ftyoks_mem h.2 t ht

theorem ttree_vok (t : F) : T.vok (F.ttree t) = true := by
  induction t using F.ind with
  | _ k n ks ih =>
    unfold F.ttree
    split
    · have : ∀ l : List F, (∀ t ∈ l, T.vok (F.ttree t) = true) → tvoks (fttrees l) = true := by
        intro l
        induction l with
        | nil => intro _; rfl
        | cons a r ih2 => intro h; simp only [fttrees, tvoks, Bool.and_eq_true]; exact ⟨h a (List.mem_cons_self ..), ih2 fun t ht => h t (List.mem_cons_of_mem _ ht)⟩
      simp only [T.vok, this ks ih]
      rfl
    · rfl

theorem ttree_nodes (t : F) : T.nodes (F.ttree t) ≤ t.size := by
  induction t using F.ind with
  | _ k n ks ih =>
    unfold F.ttree F.size
    split
    · have : ∀ l : List F, (∀ t ∈ l, T.nodes (F.ttree t) ≤ t.size) → tnodes (fttrees l) ≤ fsizes l := by
        intro l
        induction l with
        | nil => intro _; exact Nat.le_refl _
        | cons a r ih2 =>
          intro h
          have h1 := h a (List.mem_cons_self ..)
          have h2 := ih2 fun t ht => h t (List.mem_cons_of_mem _ ht)
          simp only [fttrees, tnodes, fsizes]; omega
      have := this ks ih
      simp only [T.nodes]; omega
    · simp only [T.nodes, tnodes]; omega

theorem digit_ev (n : Int) (h0 : 0 ≤ n) (h5 : n ≤ 5) (m : Nat) : ∃ r, s_l00Digits (m + 1) n = some r ∧ r.size = 1 ∧ (⟨#[98]⟩ : ByteArray) ++ r = bname n := by
  have : n = 0 ∨ n = 1 ∨ n = 2 ∨ n = 3 ∨ n = 4 ∨ n = 5 := by omega
  refine ⟨bytesOf [(IntKind.u8.wrap (IntKind.i64.wrap (48 + n)))], ?_, rfl, ?_⟩
  · rw [s_l00Digits, if_neg (by omega), if_neg (by omega), if_pos (by omega)]
  · rcases this with rfl | rfl | rfl | rfl | rfl | rfl <;> decide +kernel

theorem sub_ev (n : Int) (h0 : 0 ≤ n) (h5 : n ≤ 5) : strSub (⟨#[98, 48, 98, 49, 98, 50, 98, 51, 98, 52, 98, 53]⟩ : ByteArray) (IntKind.i64.wrap (2 * n)) (IntKind.i64.wrap ((IntKind.i64.wrap (2 * n)) + 2)) = some (bname n) := by
  have : n = 0 ∨ n = 1 ∨ n = 2 ∨ n = 3 ∨ n = 4 ∨ n = 5 := by omega
  rcases this with rfl | rfl | rfl | rfl | rfl | rfl <;> decide +kernel

theorem ty_cases {k n : Int} {ks : List F} (h : (F.mk k n ks).tyok = true) : (k = 1 ∧ 0 ≤ n ∧ n ≤ 5 ∧ ks = []) ∨ (k = 2 ∧ n = 0 ∧ ∃ a b, ks = [a, b] ∧ a.tyok = true ∧ b.tyok = true) := by
  rw [tyok_eq] at h
  by_cases h1 : k = 1
  · rw [if_pos h1] at h
    simp only [Bool.and_eq_true, decide_eq_true_eq] at h
    exact .inl ⟨h1, h.1, h.2.1, List.length_eq_zero_iff.1 h.2.2⟩
  · rw [if_neg h1] at h
    by_cases h2 : k = 2
    · rw [if_pos h2] at h
      simp only [Bool.and_eq_true, decide_eq_true_eq] at h
      match ks, h with
      | [a, b], h =>
        have := ftyoks_mem h.2.2
        exact .inr ⟨h2, h.1, a, b, rfl, this a (by simp), this b (by simp)⟩
      | [], h => simp at h
      | [a], h => simp at h
      | a :: b :: c :: r, h => simp at h
    · rw [if_neg h2] at h; cases h

theorem typeTree_ev (t : F) (h : t.tyok = true) : Ev fun n => s_l09TypeTree n t = some (F.ttree t) ∧ i_typeTerm n t = some (F.ttree t) := by
  induction t using F.ind with
  | _ k n ks ih =>
    rcases ty_cases h with ⟨rfl, h0, h5, rfl⟩ | ⟨rfl, rfl, a, b, rfl, ha, hb⟩
    · refine ⟨2, fun m hm => ?_⟩
      obtain ⟨m, rfl⟩ : ∃ q, m = q + 2 := ⟨m - 2, by omega⟩
      obtain ⟨r, hr, hs, he⟩ := digit_ev n h0 h5 m
      have ht : F.ttree (F.mk 1 n []) = T.mk 6 0 (bname n) [] := by unfold F.ttree; rw [if_neg (by decide)]
      rw [ht]
      constructor
      · rw [s_l09TypeTree, if_neg (show ¬ (F.mk 1 n []).kind = 2 from (by decide : ¬ (1 : Int) = 2)), show (F.mk 1 n []).n = n from rfl, hr, bind_some', chk_of (by rw [hs]; decide), he]
      · rw [i_typeTerm, if_pos (show (F.mk 1 n []).kind = 1 from rfl), show (F.mk 1 n []).n = n from rfl, sub_ev n h0 h5, bind_some']
    · refine ((ih a (by simp) ha).and (ih b (by simp) hb)).up 0 fun m _ H => ?_
      obtain ⟨⟨a1, a2⟩, b1, b2⟩ := H
      have ht : F.ttree (F.mk 2 0 [a, b]) = T.mk 6 0 ⟨#[97, 114, 114]⟩ [F.ttree a, F.ttree b] := by rw [F.ttree, if_pos rfl]; rfl
      rw [ht]
      constructor
      · rw [s_l09TypeTree, if_pos (show (F.mk 2 0 [a, b]).kind = 2 from rfl), show idx (F.mk 2 0 [a, b]).kids 0 = some a from rfl, show idx (F.mk 2 0 [a, b]).kids 1 = some b from rfl, bind_some', bind_some', a1, b1, bind_some', bind_some']
      · rw [i_typeTerm, if_neg (show ¬ (F.mk 2 0 [a, b]).kind = 1 from (by decide : ¬ (2 : Int) = 1)), show idx (F.mk 2 0 [a, b]).kids 0 = some a from rfl, show idx (F.mk 2 0 [a, b]).kids 1 = some b from rfl, bind_some', bind_some', a2, b2, bind_some', bind_some']

/-- What EncodeType answers. -/
def etree (t : F) : T × Int := if decide (t.size ≤ 150) && t.tyok then (F.ttree t, 0) else (T.mk 0 0 ⟨#[]⟩ [], 1)

theorem encodeType_ev (t : F) (hsm : t.sm) : Ev fun n => s_EncodeType n t = some (etree t) ∧ i_EncodeType n t = some (etree t) := by
  by_cases hok : (decide (t.size ≤ 150) && t.tyok) = true
  · have hok' := hok
    simp only [Bool.and_eq_true, decide_eq_true_eq] at hok
    have hn := ttree_nodes t
    refine ((specTypeOK_ev t hsm).and ((implTypeOK_ev t).and ((typeTree_ev t hok.2).and (tooBig_ev (F.ttree t) (ttree_vok t) (nodes_fits _ (by omega)))))).mp fun n h => ?_
    obtain ⟨h1, h2, ⟨h3, h4⟩, h5⟩ := h
    rw [hok'] at h1 h2
    have he : etree t = (F.ttree t, 0) := if_pos hok'
    rw [he]
    constructor
    · unfold s_EncodeType
      rw [h1, bind_some', if_neg (by decide), h3, bind_some']
    · unfold i_EncodeType i_encoded__fn_i_EncodeType_c1v i_EncodeType_c1
      rw [h2, bind_some', if_neg (by decide), h4, bind_some', bind_some', h5, bind_some', if_neg (by simp; omega), bind_some']
  · refine ((specTypeOK_ev t hsm).and (implTypeOK_ev t)).mp fun n h => ?_
    have hok' : (decide (t.size ≤ 150) && t.tyok) = false := by simpa using hok
    rw [hok'] at h
    have he : etree t = (T.mk 0 0 ⟨#[]⟩ [], 1) := if_neg hok
    rw [he]
    constructor
    · unfold s_EncodeType
      rw [h.1, bind_some', if_pos (by decide)]
    · unfold i_EncodeType i_encoded__fn_i_EncodeType_c1v
      rw [h.2, bind_some', if_pos (by decide), bind_some']

theorem etree_nodes (t : F) : T.nodes (etree t).1 ≤ 150 := by
  unfold etree
  split
  · rename_i h
    simp only [Bool.and_eq_true, decide_eq_true_eq] at h
    have := ttree_nodes t
    show T.nodes (F.ttree t) ≤ 150
    omega
  · decide

theorem lawEncodeType_ev (t : F) (hok : t.ok) : Ev fun n => w_FnExactEncodeType n t = some true := by
  by_cases hb : t.sz 1048576 < 0
  · refine (szType_ev t hok).mp fun n h => ?_
    unfold w_FnExactEncodeType
    rw [h 1048576 (by omega) (by omega), bind_some', if_pos hb]
  · have hsm := fsz_sm t 1048576 (by omega) (by omega) (by omega)
    have hn := etree_nodes t
    refine ((szType_ev t hok).and ((toType_ev t hsm).and ((encodeType_ev t hsm).and ((eqType_ev t hsm).and ((eqTree_ev (etree t).1 (nodes_fits _ (by omega))).and (heldTree_ev (etree t).1 (by omega))))))).mp fun n h => ?_
    obtain ⟨h1, h2, ⟨h3, h4⟩, h5, h6, h7, h8⟩ := h
    unfold w_FnExactEncodeType
    rw [h1 1048576 (by omega) (by omega), bind_some', if_neg hb]
    have hm : ∃ p, w_markType t 1 = some p ∧ ¬ p.2 < 0 := ⟨_, rfl, fmark_pos t (by omega)⟩
    obtain ⟨p, hp1, hp2⟩ := hm
    have hneg : ¬ (1 + 3 * (tnodes (etree t).1.kids : Int)) < 0 := by omega
    simp only [h2, h3, h4, h5, h6, h7, h8, hp1, bind_some', Bool.not_true, Bool.false_eq_true, if_false, bne_self_eq_false, if_neg hp2, if_neg hneg]

theorem lawEncodeType_ok (t : LF) (hok : t.er.ok) (hold : old t.toks) : ∀ tk, 2 ≤ tk → ACalls Go.Proofs.Try.prog 3 [.agg t.cells] (fun _ => none) tk (RetX (fun _ => none) tk (fun v _ => v = .bool true)) := by
  intro tk h2
  obtain ⟨n, hn⟩ := (lawEncodeType_ev t.er hok).get
  obtain ⟨k, m, q, f, ks⟩ := t
  rw [LF.toks_eq] at hold
  exact w_FnExactEncodeType_ok n k m q f ks hn hold _ tk rfl h2

end Go.Am.Ytgbmcnmepfpjiaa
