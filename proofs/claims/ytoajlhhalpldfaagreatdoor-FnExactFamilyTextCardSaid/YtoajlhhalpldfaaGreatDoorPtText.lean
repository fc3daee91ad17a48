/- Plain laws: the text of a term. -/
import Derived.Test.YtoajlhhalpldfaaGreatDoorPsSrcT
import Derived.Test.YtoajlhhalpldfaaGreatDoorTqA
import Derived.Test.YtoajlhhalpldfaaGreatDoorTqS
import Derived.Test.YtoajlhhalpldfaaGreatDoorTqC
namespace Go.Am
open Go
theorem ba_assoc (a b c : ByteArray) : (a ++ b) ++ c = a ++ (b ++ c) := ByteArray.append_assoc
theorem ba_size (a b : ByteArray) : (a ++ b).size = a.size + b.size := ByteArray.size_append
theorem ba_nil (a : ByteArray) : a ++ (⟨#[]⟩ : ByteArray) = a := ByteArray.append_empty

def dg (n : Int) : ByteArray := ⟨(Lib.decDigits n.toNat).toArray⟩
def lvl (d : Int) : ByteArray := (⟨#[120]⟩ : ByteArray) ++ dg d
theorem decLen (u : Nat) : (Lib.decDigits u).length ≤ u + 1 := by
 induction u using Nat.strongRecOn with
 | _ u ih =>
  rw [Lib.decDigits]
  split
  ·simp
  have := ih (u / 10) (by omega)
  rw [List.length_append]
  simp only [List.length_singleton]
  omega
theorem dg_size (n : Int) : (dg n).size ≤ n.toNat + 1 := by
 have := decLen n.toNat
 show (Lib.decDigits n.toNat).toArray.size ≤ _
 simpa using this
theorem lvl_size (n : Int) : (lvl n).size ≤ n.toNat + 2 := by
 have := dg_size n
 unfold lvl
 rw [ba_size, show (⟨#[120]⟩ : ByteArray).size = 1 from rfl]
 omega
def txe (s : ByteArray) (t : T) : ByteArray := if t.kind = 4 ∨ 0 < t.kids.length then (⟨#[32]⟩ : ByteArray) ++ (((⟨#[40]⟩ : ByteArray) ++ s) ++ (⟨#[41]⟩ : ByteArray)) else (⟨#[32]⟩ : ByteArray) ++ s
theorem txe_size (s : ByteArray) (t : T) : (txe s t).size ≤ s.size + 3 := by
 unfold txe
 split <;> simp only [ba_size] <;> simp only [show (⟨#[32]⟩ : ByteArray).size = 1 from rfl, show (⟨#[40]⟩ : ByteArray).size = 1 from rfl, show (⟨#[41]⟩ : ByteArray).size = 1 from rfl] <;> omega
mutual
def T.tx : T → Int → ByteArray
 | .mk k n s ks, d => if k = 4 then (((⟨#[91]⟩ : ByteArray) ++ lvl d) ++ (⟨#[93, 32]⟩ : ByteArray)) ++ tx1 ks (d + 1)
  else (if k = 5 then lvl (d - 1 - n) else if k = 7 then (⟨#[63]⟩ : ByteArray) ++ dg n else if k = 8 then (⟨#[95]⟩ : ByteArray) else s) ++ txs ks d
def tx1 : List T → Int → ByteArray
 | [], _ => ⟨#[]⟩
 | t :: _, d => t.tx d
def txs : List T → Int → ByteArray
 | [], _ => ⟨#[]⟩
 | t :: r, d => txe (t.tx d) t ++ txs r d
end
def un (k : Int) (i : Nat) : Int := if k = 4 then 1 else if k = 2 then (if i = 1 then 1 else 0) else 0
mutual
def T.clo : T → Int → Bool
 | .mk k n _ ks, d => !(decide (k = 5) && decide (n ≥ d)) && clox k 0 ks d
def clox : Int → Nat → List T → Int → Bool
 | _, _, [], _ => true
 | k, i, t :: r, d => t.clo (d + un k i) && clox k (i + 1) r d
end
theorem clox_all (k : Int) (h4 : k ≠ 4) (h2 : k ≠ 2) (d : Int) : ∀ (r : List T) (i : Nat), clox k i r d = r.all fun t => t.clo d
 | [], _ => rfl
 | t :: r, i => by
  simp only [clox, List.all_cons, clox_all k h4 h2 d r (i + 1)]
  rw [show un k i = 0 from by unfold un; rw [if_neg h4, if_neg h2], Int.add_zero]

theorem tsos_mem : ∀ {ks : List T}, tsos ks = true → ∀ t ∈ ks, t.srcB = true
 | [], _, t, h => by cases h
 | a :: r, h, t, ht => by
  simp only [tsos, Bool.and_eq_true] at h
  rcases List.mem_cons.1 ht with rfl | ht
  ·exact h.1
  exact tsos_mem h.2 t ht
theorem tso_not8 (t : T) (h : t.tso = true) : t.kind ≠ 8 := by
 obtain ⟨k, n, s, ks⟩ := t
 intro h8
 have h8 : k = 8 := h8
 subst h8
 simp [T.tso] at h
theorem srcB_of (t : T) (h : t.tso = true) : t.srcB = true := by
 unfold T.srcB; rw [if_neg (tso_not8 t h)]; exact h
theorem src_shape (k n : Int) (s : ByteArray) (ks : List T) (h : (T.mk k n s ks).srcB = true) :
  (k = 4 ∧ ∃ a, ks = [a] ∧ a.srcB = true) ∨ (k = 5 ∧ 0 ≤ n ∧ n ≤ 100 ∧ tsos ks = true) ∨ (k = 7 ∧ 0 ≤ n ∧ n ≤ 100 ∧ tsos ks = true) ∨ (k = 8 ∧ ks = []) ∨ (k = 6 ∧ tsos ks = true) := by
 unfold T.srcB at h
 by_cases k8 : k = 8
 ·rw [if_pos (show (T.mk k n s ks).kind = 8 from k8)] at h
  simp only [Bool.and_eq_true, decide_eq_true_eq] at h
  exact .inr (.inr (.inr (.inl ⟨k8, List.length_eq_zero_iff.1 h.2.2⟩)))
 rw [if_neg (show ¬ (T.mk k n s ks).kind = 8 from k8)] at h
 simp only [T.tso] at h
 by_cases k4 : k = 4
 ·rw [if_pos k4] at h
  simp only [Bool.and_eq_true, decide_eq_true_eq] at h
  obtain ⟨_, _, hl, hf⟩ := h
  match ks, hl, hf with
  | [a], _, hf => exact .inl ⟨k4, a, rfl, srcB_of a hf⟩
 rw [if_neg k4] at h
 by_cases k57 : k = 5 ∨ k = 7
 ·rw [if_pos k57] at h
  simp only [Bool.and_eq_true, decide_eq_true_eq] at h
  rcases k57 with q | q
  ·exact .inr (.inl ⟨q, h.1, h.2.1, h.2.2.2⟩)
  exact .inr (.inr (.inl ⟨q, h.1, h.2.1, h.2.2.2⟩))
 rw [if_neg k57] at h
 by_cases k6 : k = 6
 ·rw [if_pos k6] at h
  simp only [Bool.and_eq_true, decide_eq_true_eq] at h
  exact .inr (.inr (.inr (.inr ⟨k6, h.2.2⟩)))
 rw [if_neg k6] at h; cases h

theorem txs_size (d : Int) : ∀ (ks : List T), (∀ t ∈ ks, (t.tx d).size + 3 ≤ t.size * 2000000) → (txs ks d).size ≤ sizes ks * 2000000
 | [], _ => Nat.zero_le _
 | t :: r, h => by
  have h1 := h t (by simp)
  have h2 := txs_size d r fun u hu => h u (by simp [hu])
  have h3 := txe_size (t.tx d) t
  simp only [txs, sizes, ba_size, Nat.add_mul]
  omega
theorem tx_size (t : T) : t.sm → t.srcB = true → ∀ d : Int, 0 ≤ d → d + t.size ≤ 1000 → (t.tx d).size + 3 ≤ t.size * 2000000 := by
 induction t using T.ind with
 | _ k n s ks ih =>
  intro hsm hs d h0 h1
  obtain ⟨hss, _, hks⟩ := sm_kids hsm
  simp only [T.size] at h1 ⊢
  have hsp : tsos ks = true → (txs ks d).size ≤ sizes ks * 2000000 := fun hk =>
   txs_size d ks fun t ht => ih t ht (hks t ht) (tsos_mem hk t ht) d h0 (by have := sizes_mem ht; omega)
  simp only [T.tx]
  rcases src_shape k n s ks hs with ⟨rfl, a, rfl, ha⟩ | ⟨rfl, hn0, hn1, hk⟩ | ⟨rfl, hn0, hn1, hk⟩ | ⟨rfl, rfl⟩ | ⟨rfl, hk⟩
  ·have h2 := ih a (by simp) (hks a (by simp)) ha (d + 1) (by omega) (by simp only [sizes] at h1; omega)
   have h3 := lvl_size d
   rw [if_pos rfl]
   simp only [tx1, sizes, ba_size, show (⟨#[91]⟩ : ByteArray).size = 1 from rfl, show (⟨#[93, 32]⟩ : ByteArray).size = 2 from rfl, Nat.add_mul] at h1 ⊢
   omega
  ·have h2 := hsp hk
   have h3 := lvl_size (d - 1 - n)
   rw [if_neg (by decide), if_pos rfl, ba_size, Nat.add_mul]
   omega
  ·have h2 := hsp hk
   have h3 := dg_size n
   rw [if_neg (by decide), if_neg (by decide), if_pos rfl, ba_size, ba_size, Nat.add_mul, show (⟨#[63]⟩ : ByteArray).size = 1 from rfl]
   omega
  ·rw [if_neg (by decide), if_neg (by decide), if_neg (by decide), if_pos rfl]
   simp only [txs, sizes, ba_size]
   decide
  have h2 := hsp hk
  rw [if_neg (by decide), if_neg (by decide), if_neg (by decide), if_neg (by decide), ba_size, Nat.add_mul]
  omega
end Go.Am
namespace Go.Am.YtoajlhhalpldfaaGreatDoor
open Go Go.Am

theorem itoa_dg (n : Int) (h : 0 ≤ n) (h1 : n ≤ 1000000) : g_Itoa n = some (dg n) := by
 unfold g_Itoa
 rw [if_pos (by omega)]
 unfold dg Lib.itoa
 rw [if_neg (by omega)]
theorem dig_ev (u : Nat) : u ≤ 1000000 → Ev fun m => s_l00Digits m (u : Int) = some ⟨(Lib.decDigits u).toArray⟩ := by
 induction u using Nat.strongRecOn with
 | _ u ih =>
  intro hu
  by_cases h : u < 10
  ·refine ⟨1, fun m hm => ?_⟩
   obtain ⟨m, rfl⟩ : ∃ k, m = k + 1 := ⟨m - 1, by omega⟩
   rw [s_l00Digits, if_neg (by omega), if_neg (by omega), if_pos (by omega), Lib.decDigits, dif_pos h, w64_eq (by omega) (by omega)]
   have : IntKind.u8.wrap (48 + (u : Int)) = 48 + (u : Int) := IntWalk.u8_in _ (by omega)
   rw [this]
   have e : (48 + (u : Int)).toNat = 48 + u := by omega
   unfold bytesOf
   simp only [List.foldl, e]
   rfl
  refine (ih (u / 10) (by omega) (by omega)).up 0 fun m _ H => ?_
  have ed : Int.tdiv (u : Int) 10 = ((u / 10 : Nat) : Int) := rfl
  have em : Int.tmod (u : Int) 10 = ((u % 10 : Nat) : Int) := rfl
  rw [s_l00Digits, if_neg (by omega), if_neg (by omega), if_neg (by omega), ed, em, w64_eq (x := ((u / 10 : Nat) : Int)) (by omega) (by omega), H, bind_some', w64_eq (by omega) (by omega)]
  have : IntKind.u8.wrap (48 + ((u % 10 : Nat) : Int)) = 48 + ((u % 10 : Nat) : Int) := IntWalk.u8_in _ (by omega)
  rw [this]
  have hl := decLen (u / 10)
  rw [chk_of]
  ·have e : (48 + ((u % 10 : Nat) : Int)).toNat = 48 + u % 10 := by omega
   unfold bytesOf
   simp only [List.foldl, e]
   rw [Lib.decDigits.eq_def u, dif_neg h]
   congr 1
  show (Lib.decDigits (u / 10)).toArray.size + 1 ≤ _
  simp only [List.size_toArray]
  omega
theorem dg_ev (n : Int) (h : 0 ≤ n) (h1 : n ≤ 1000000) : Ev fun m => s_l00Digits m n = some (dg n) := by
 have := dig_ev n.toNat (by omega)
 rw [Int.toNat_of_nonneg h] at this
 exact this
theorem lvl_ev (n : Int) (h : 0 ≤ n) (h1 : n ≤ 1000000) : Ev fun m => s_l02Level m n = some (lvl n) := by
 refine (dg_ev n h h1).mp fun m e => ?_
 have := dg_size n
 unfold s_l02Level
 rw [e, bind_some', chk_of]
 ·rfl
 rw [show (⟨#[120]⟩ : ByteArray).size = 1 from rfl]; omega
theorem binder_eq (n : Int) (h : 0 ≤ n) (h1 : n ≤ 1000000) : i_binderName n = some (lvl n) := by
 have := dg_size n
 unfold i_binderName
 rw [itoa_dg n h h1, bind_some', chk_of]
 ·rfl
 rw [show (⟨#[120]⟩ : ByteArray).size = 1 from rfl]; omega

theorem under_eq (x : T) (i : Nat) : s_l01Under x (i : Int) = some (un x.kind i) := by
 unfold s_l01Under s_l01Binds un
 by_cases h4 : x.kind = 4
 ·rw [if_pos h4, if_pos h4, bind_some', if_pos rfl]
 rw [if_neg h4, if_neg h4]
 by_cases h2 : x.kind = 2
 ·rw [if_pos h2, if_pos h2, bind_some']
  by_cases h1 : i = 1
  ·subst h1; rfl
  rw [show ((i : Int) == 1) = false from beq_eq_false_iff_ne.2 (by omega), if_neg (by decide), if_neg h1]
 rw [if_neg h2, if_neg h2, bind_some', if_neg (by decide)]
theorem un_01 (k : Int) (i : Nat) : un k i = 0 ∨ un k i = 1 := by
 unfold un
 split
 ·exact .inr rfl
 split
 ·split
  ·exact .inr rfl
  exact .inl rfl
 exact .inl rfl
theorem clo_lp (rec : T → Int → Option Bool) (x : T) (d : Int) (h0 : 0 ≤ d) (hd : d ≤ 1000000) (hl : x.kids.length ≤ 1048576) (H : ∀ y ∈ x.kids, rec y d = some (y.clo d) ∧ rec y (d + 1) = some (y.clo (d + 1))) :
  ∀ (r a : List T) (m : Nat), x.kids = a ++ r → r.length < m → s_l02Closed_L1 rec x d m a.length = some (clox x.kind a.length r d)
 | [], a, m, e, hm => by
  obtain ⟨m, rfl⟩ : ∃ k, m = k + 1 := ⟨m - 1, by omega⟩
  rw [s_l02Closed_L1, e, if_neg (lt_end a)]
  simp only [clox]
 | y :: r, a, m, e, hm => by
  obtain ⟨m, rfl⟩ : ∃ k, m = k + 1 := ⟨m - 1, by omega⟩
  have hy : y ∈ x.kids := by rw [e]; simp
  have e1 : (a.length : Int) < (x.kids.length : Int) := by rw [e]; exact lt_mid a y r
  have e2 : idx x.kids (a.length : Int) = some y := by rw [e]; exact idx_mid a y r
  have hu := un_01 x.kind a.length
  have h3 : rec y (d + un x.kind a.length) = some (y.clo (d + un x.kind a.length)) := by
   rcases hu with q | q
   ·rw [q, Int.add_zero]; exact (H y hy).1
   rw [q]; exact (H y hy).2
  have ih := clo_lp rec x d h0 hd hl H r (a ++ [y]) m (by simp [e]) (by simpa using hm)
  rw [s_l02Closed_L1, if_pos e1, e2, bind_some', under_eq, bind_some', w64_eq (x := d + _) (by omega) (by omega), h3, bind_some', show IntKind.i64.wrap ((a.length : Int) + 1) = ((a ++ [y]).length : Int) from w64_mid a y r (by rw [← e]; omega), ih]
  simp only [clox]
  rw [List.length_append, List.length_singleton]
  cases y.clo (d + un x.kind a.length) <;> rfl
theorem clo_ev (t : T) : t.sm → ∀ d : Int, 0 ≤ d → d + t.size ≤ 1000 → Ev fun n => s_l02Closed n t d = some (t.clo d) := by
 induction t using T.ind with
 | _ k n s ks ih =>
  intro hsm d h0 h1
  obtain ⟨_, hl, hks⟩ := sm_kids hsm
  simp only [T.size] at h1
  refine (Ev.all fun t ht => (ih t ht (hks t ht) d h0 (by have := sizes_mem ht; omega)).and (ih t ht (hks t ht) (d + 1) (by omega) (by have := sizes_mem ht; omega))).up (ks.length + 1) fun fu hn H => ?_
  have hlp := clo_lp _ (T.mk k n s ks) d h0 (by omega) hl H ks [] fu rfl (by omega)
  have hlp : s_l02Closed_L1 (s_l02Closed fu) (T.mk k n s ks) d fu 0 = some (clox k 0 ks d) := hlp
  have e0 : s_l02Closed (fu + 1) (T.mk k n s ks) d = if k = 5 then (if n ≥ d then some false else s_l02Closed_L1 (s_l02Closed fu) (T.mk k n s ks) d fu 0) else s_l02Closed_L1 (s_l02Closed fu) (T.mk k n s ks) d fu 0 := by rw [s_l02Closed]; rfl
  rw [e0, hlp]
  simp only [T.clo]
  by_cases k5 : k = 5
  ·rw [if_pos k5, decide_eq_true k5]
   by_cases q : n ≥ d
   ·rw [if_pos q, decide_eq_true q]; rfl
   rw [if_neg q, decide_eq_false q]; rfl
  rw [if_neg k5, decide_eq_false k5]; rfl

theorem bare_eq2 (y : T) : s_l02Bare y = some (!(decide (y.kind = 4 ∨ 0 < y.kids.length))) := by
 unfold s_l02Bare
 by_cases h4 : y.kind = 4
 ·rw [if_neg (by simp [h4]), decide_eq_true (.inl h4)]; rfl
 rw [if_pos (by simp [h4])]
 by_cases hl : y.kids.length = 0
 ·rw [decide_eq_false (by omega), hl]; rfl
 rw [decide_eq_true (.inr (by omega)), show ((y.kids.length : Int) == 0) = false from beq_eq_false_iff_ne.2 (by omega)]; rfl
theorem el_assoc (s : ByteArray) : ((⟨#[32, 40]⟩ : ByteArray) ++ s) ++ (⟨#[41]⟩ : ByteArray) = (⟨#[32]⟩ : ByteArray) ++ (((⟨#[40]⟩ : ByteArray) ++ s) ++ (⟨#[41]⟩ : ByteArray)) := by
 rw [← ba_assoc, ← ba_assoc]; rfl
theorem sspine_lp (rec : T → Int → Option ByteArray) (l : List T) (d : Int) (hl : l.length ≤ 1048576) (H : ∀ y ∈ l, rec y d = some (y.tx d) ∧ (y.tx d).size ≤ 2000000000) :
  ∀ (r a : List T) (acc : ByteArray) (m : Nat), l = a ++ r → r.length < m → acc.size ≤ a.length * 2000000010 → s_l02Spine_L1 rec l d m acc a.length = some (acc ++ txs r d)
 | [], a, acc, m, e, hm, _ => by
  obtain ⟨m, rfl⟩ : ∃ k, m = k + 1 := ⟨m - 1, by omega⟩
  rw [s_l02Spine_L1, e, if_neg (lt_end a)]
  simp only [txs, ba_nil]
 | y :: r, a, acc, m, e, hm, ha => by
  obtain ⟨m, rfl⟩ : ∃ k, m = k + 1 := ⟨m - 1, by omega⟩
  have hy : y ∈ l := by rw [e]; simp
  have e1 : (a.length : Int) < (l.length : Int) := by rw [e]; exact lt_mid a y r
  have e2 : idx l (a.length : Int) = some y := by rw [e]; exact idx_mid a y r
  obtain ⟨h3, h4⟩ := H y hy
  have hal : a.length ≤ 1048576 := by rw [e] at hl; simp at hl; omega
  have h5 := txe_size (y.tx d) y
  have ih := sspine_lp rec l d hl H r (a ++ [y]) (acc ++ txe (y.tx d) y) m (by simp [e]) (by simpa using hm) (by rw [ba_size, List.length_append, List.length_singleton, Nat.add_mul]; omega)
  rw [s_l02Spine_L1, if_pos e1, e2, bind_some', bare_eq2, bind_some']
  simp only [txs]
  rw [← ba_assoc]
  by_cases hb : y.kind = 4 ∨ 0 < y.kids.length
  ·have et : txe (y.tx d) y = (((⟨#[32, 40]⟩ : ByteArray) ++ y.tx d) ++ (⟨#[41]⟩ : ByteArray)) := by unfold txe; rw [if_pos hb, el_assoc]
   rw [et] at ih h5 ⊢
   rw [decide_eq_true hb, if_neg (by decide), bind_some', h3, bind_some', chk_of, chk_of, chk_of]
   ·rw [show IntKind.i64.wrap ((a.length : Int) + 1) = ((a ++ [y]).length : Int) from w64_mid a y r (by rw [← e]; omega)]
    exact ih
   ·omega
   ·simp only [ba_size, show (⟨#[32, 40]⟩ : ByteArray).size = 2 from rfl, show (⟨#[41]⟩ : ByteArray).size = 1 from rfl]; omega
   rw [show (⟨#[32, 40]⟩ : ByteArray).size = 2 from rfl]; omega
  have et : txe (y.tx d) y = (⟨#[32]⟩ : ByteArray) ++ y.tx d := by unfold txe; rw [if_neg hb]
  rw [et] at ih h5 ⊢
  rw [decide_eq_false hb, if_pos (by decide), bind_some', h3, bind_some', chk_of, chk_of]
  ·rw [show IntKind.i64.wrap ((a.length : Int) + 1) = ((a ++ [y]).length : Int) from w64_mid a y r (by rw [← e]; omega)]
   exact ih
  ·omega
  rw [show (⟨#[32]⟩ : ByteArray).size = 1 from rfl]; omega
theorem sspine_ev (ks : List T) (d : Int) (hl : ks.length ≤ 1048576) (hk : ∀ t ∈ ks, (Ev fun n => s_l02Term n t d = some (t.tx d)) ∧ (t.tx d).size ≤ 2000000000) : Ev fun n => s_l02Spine n ks d = some (txs ks d) := by
 refine (Ev.all fun t ht => (hk t ht).1).up (ks.length + 1) fun n hn H => ?_
 rw [s_l02Spine]
 have := sspine_lp (s_l02Term n) ks d hl (fun y hy => ⟨H y hy, (hk y hy).2⟩) ks [] (⟨#[]⟩) n rfl (by omega) (Nat.zero_le _)
 rw [show (⟨#[]⟩ : ByteArray) ++ txs ks d = txs ks d from ByteArray.empty_append] at this
 exact this
theorem small_size {t : T} {d : Int} (hsm : t.sm) (hs : t.srcB = true) (h0 : 0 ≤ d) (h1 : d + t.size ≤ 1000) : (t.tx d).size ≤ 2000000000 := by
 have := tx_size t hsm hs d h0 h1
 omega
theorem sterm_ev (t : T) : t.sm → t.srcB = true → ∀ d : Int, 0 ≤ d → d + t.size ≤ 1000 → t.clo d = true → Ev fun n => s_l02Term n t d = some (t.tx d) := by
 induction t using T.ind with
 | _ k n s ks ih =>
  intro hsm hs d h0 h1 hc
  have hts := small_size hsm hs h0 h1
  obtain ⟨hss, hl, hks⟩ := sm_kids hsm
  simp only [T.size] at h1
  simp only [T.clo, Bool.and_eq_true, Bool.not_eq_true'] at hc
  obtain ⟨hv, hc⟩ := hc
  have hsp : tsos ks = true → (∀ t ∈ ks, t.clo d = true) → Ev fun n => s_l02Spine n ks d = some (txs ks d) := fun hk hc =>
   sspine_ev ks d hl fun t ht => ⟨ih t ht (hks t ht) (tsos_mem hk t ht) d h0 (by have := sizes_mem ht; omega) (hc t ht), small_size (hks t ht) (tsos_mem hk t ht) h0 (by have := sizes_mem ht; omega)⟩
  simp only [T.tx] at hts ⊢
  rcases src_shape k n s ks hs with ⟨rfl, a, rfl, ha⟩ | ⟨rfl, hn0, hn1, hk⟩ | ⟨rfl, hn0, hn1, hk⟩ | ⟨rfl, rfl⟩ | ⟨rfl, hk⟩
  ·simp only [sizes] at h1
   have ha1 : a.clo (d + 1) = true := by
    simp only [clox, Bool.and_true] at hc
    exact hc
   refine ((lvl_ev d h0 (by omega)).and (ih a (by simp) (hks a (by simp)) ha (d + 1) (by omega) (by omega) ha1)).up 0 fun m _ ⟨h2, h3⟩ => ?_
   rw [if_pos rfl] at hts ⊢
   have e0 : s_l02Term (m + 1) (T.mk 4 n s [a]) d = (s_l02Level m d).bind fun r9 => chk ((⟨#[91]⟩ : ByteArray).size + r9.size ≤ 9223372036854775807) <| chk (((⟨#[91]⟩ : ByteArray) ++ r9).size + (⟨#[93, 32]⟩ : ByteArray).size ≤ 9223372036854775807) <| (s_l02Term m a (IntKind.i64.wrap (d + 1))).bind fun r18 => chk ((((⟨#[91]⟩ : ByteArray) ++ r9) ++ (⟨#[93, 32]⟩ : ByteArray)).size + r18.size ≤ 9223372036854775807) <| some ((((⟨#[91]⟩ : ByteArray) ++ r9) ++ (⟨#[93, 32]⟩ : ByteArray)) ++ r18) := by rw [s_l02Term]; rfl
   simp only [tx1] at hts ⊢
   simp only [ba_size, show (⟨#[91]⟩ : ByteArray).size = 1 from rfl, show (⟨#[93, 32]⟩ : ByteArray).size = 2 from rfl] at hts
   rw [e0, h2, bind_some', chk_of, chk_of, w64_eq (by omega) (by omega), h3, bind_some', chk_of]
   ·simp only [ba_size, show (⟨#[91]⟩ : ByteArray).size = 1 from rfl, show (⟨#[93, 32]⟩ : ByteArray).size = 2 from rfl]; omega
   ·simp only [ba_size, show (⟨#[91]⟩ : ByteArray).size = 1 from rfl, show (⟨#[93, 32]⟩ : ByteArray).size = 2 from rfl]; omega
   rw [show (⟨#[91]⟩ : ByteArray).size = 1 from rfl]; omega
  ·have hc : ∀ t ∈ ks, t.clo d = true := by rw [clox_all 5 (by decide) (by decide)] at hc; exact List.all_eq_true.1 hc
   have hnd : n < d := by simp at hv; omega
   refine ((lvl_ev (d - 1 - n) (by omega) (by omega)).and (hsp hk hc)).up 0 fun m _ ⟨h2, h3⟩ => ?_
   rw [if_neg (by decide), if_pos rfl] at hts ⊢
   have e0 : s_l02Term (m + 1) (T.mk 5 n s ks) d = (s_l02Level m (IntKind.i64.wrap ((IntKind.i64.wrap (d - 1)) - n))).bind fun r27 => (s_l02Spine m ks d).bind fun r34 => chk (r27.size + r34.size ≤ 9223372036854775807) <| some (r27 ++ r34) := by rw [s_l02Term]; rfl
   rw [ba_size] at hts
   rw [e0, w64_eq (x := d - 1) (by omega) (by omega), w64_eq (by omega) (by omega), h2, bind_some', h3, bind_some', chk_of (by omega)]
  ·have hc : ∀ t ∈ ks, t.clo d = true := by rw [clox_all 7 (by decide) (by decide)] at hc; exact List.all_eq_true.1 hc
   refine ((dg_ev n (by omega) (by omega)).and (hsp hk hc)).up 0 fun m _ ⟨h2, h3⟩ => ?_
   rw [if_neg (by decide), if_neg (by decide), if_pos rfl] at hts ⊢
   have e0 : s_l02Term (m + 1) (T.mk 7 n s ks) d = (s_l00Digits m n).bind fun r43 => chk ((⟨#[63]⟩ : ByteArray).size + r43.size ≤ 9223372036854775807) <| (s_l02Spine m ks d).bind fun r51 => chk (((⟨#[63]⟩ : ByteArray) ++ r43).size + r51.size ≤ 9223372036854775807) <| some (((⟨#[63]⟩ : ByteArray) ++ r43) ++ r51) := by rw [s_l02Term]; rfl
   rw [ba_size] at hts
   have hg := dg_size n
   rw [e0, h2, bind_some', chk_of, h3, bind_some', chk_of (by omega)]
   rw [show (⟨#[63]⟩ : ByteArray).size = 1 from rfl]; omega
  ·refine ⟨1, fun m hm => ?_⟩
   obtain ⟨m, rfl⟩ : ∃ k, m = k + 1 := ⟨m - 1, by omega⟩
   rw [if_neg (by decide), if_neg (by decide), if_neg (by decide), if_pos rfl]
   rw [s_l02Term]; rfl
  have hc : ∀ t ∈ ks, t.clo d = true := by rw [clox_all 6 (by decide) (by decide)] at hc; exact List.all_eq_true.1 hc
  refine (hsp hk hc).up 0 fun m _ h3 => ?_
  rw [if_neg (by decide), if_neg (by decide), if_neg (by decide), if_neg (by decide)] at hts ⊢
  have e0 : s_l02Term (m + 1) (T.mk 6 n s ks) d = (s_l02Spine m ks d).bind fun r60 => chk (s.size + r60.size ≤ 9223372036854775807) <| some (s ++ r60) := by rw [s_l02Term]; rfl
  rw [ba_size] at hts
  rw [e0, h3, bind_some', chk_of (by omega)]

def orStop (c : Bool) (x : ByteArray) : Rz ByteArray := if c then .ok x else .stop 7 0
theorem ispine_lp (rec : T → Int → Option (Rz ByteArray)) (x : T) (d : Int) (hl : x.kids.length ≤ 1048576) (H : ∀ y ∈ x.kids, rec y d = some (orStop (y.clo d) (y.tx d)) ∧ (y.tx d).size ≤ 2000000000) :
  ∀ (r a : List T) (acc : ByteArray) (m : Nat), x.kids = a ++ r → r.length < m → acc.size ≤ 2000000010 + a.length * 2000000010 → i_termText_L1 rec x d m acc a.length = some (orStop (r.all fun t => t.clo d) (acc ++ txs r d))
 | [], a, acc, m, e, hm, _ => by
  obtain ⟨m, rfl⟩ : ∃ k, m = k + 1 := ⟨m - 1, by omega⟩
  rw [i_termText_L1, e, if_neg (lt_end a)]
  simp only [txs, ba_nil]
  rfl
 | y :: r, a, acc, m, e, hm, ha => by
  obtain ⟨m, rfl⟩ : ∃ k, m = k + 1 := ⟨m - 1, by omega⟩
  have hy : y ∈ x.kids := by rw [e]; simp
  have e1 : (a.length : Int) < (x.kids.length : Int) := by rw [e]; exact lt_mid a y r
  have e2 : idx x.kids (a.length : Int) = some y := by rw [e]; exact idx_mid a y r
  obtain ⟨h3, h4⟩ := H y hy
  have hal : a.length ≤ 1048576 := by rw [e] at hl; simp at hl; omega
  have h5 := txe_size (y.tx d) y
  have ih := ispine_lp rec x d hl H r (a ++ [y]) (acc ++ txe (y.tx d) y) m (by simp [e]) (by simpa using hm) (by rw [ba_size, List.length_append, List.length_singleton, Nat.add_mul]; omega)
  rw [i_termText_L1, if_pos e1, e2, bind_some', h3]
  simp only [txs, List.all_cons]
  rw [← ba_assoc]
  cases hc : y.clo d with
  | false => rfl
  | true =>
   rw [Bool.true_and, show orStop true (y.tx d) = .ok (y.tx d) from rfl]
   show (if y.kind = 4 then _ else _) = _
   have hbig : (y.kind = 4 ∨ 0 < y.kids.length) → (chk ((⟨#[40]⟩ : ByteArray).size + (y.tx d).size ≤ 9223372036854775807) <|
     chk (((⟨#[40]⟩ : ByteArray) ++ (y.tx d)).size + (⟨#[41]⟩ : ByteArray).size ≤ 9223372036854775807) <|
     chk ((⟨#[32]⟩ : ByteArray).size + (((⟨#[40]⟩ : ByteArray) ++ (y.tx d)) ++ (⟨#[41]⟩ : ByteArray)).size ≤ 9223372036854775807) <|
     chk (acc.size + ((⟨#[32]⟩ : ByteArray) ++ (((⟨#[40]⟩ : ByteArray) ++ (y.tx d)) ++ (⟨#[41]⟩ : ByteArray))).size ≤ 9223372036854775807) <|
     i_termText_L1 rec x d m (acc ++ ((⟨#[32]⟩ : ByteArray) ++ (((⟨#[40]⟩ : ByteArray) ++ (y.tx d)) ++ (⟨#[41]⟩ : ByteArray)))) (IntKind.i64.wrap ((a.length : Int) + 1))) = some (orStop (r.all fun t => t.clo d) ((acc ++ txe (y.tx d) y) ++ txs r d)) := fun hb => by
    have et : txe (y.tx d) y = (⟨#[32]⟩ : ByteArray) ++ (((⟨#[40]⟩ : ByteArray) ++ y.tx d) ++ (⟨#[41]⟩ : ByteArray)) := by unfold txe; rw [if_pos hb]
    rw [et] at ih h5 ⊢
    rw [chk_of, chk_of, chk_of, chk_of]
    ·rw [show IntKind.i64.wrap ((a.length : Int) + 1) = ((a ++ [y]).length : Int) from w64_mid a y r (by rw [← e]; omega)]
     exact ih
    ·omega
    ·simp only [ba_size, show (⟨#[32]⟩ : ByteArray).size = 1 from rfl, show (⟨#[40]⟩ : ByteArray).size = 1 from rfl, show (⟨#[41]⟩ : ByteArray).size = 1 from rfl]; omega
    ·simp only [ba_size, show (⟨#[40]⟩ : ByteArray).size = 1 from rfl, show (⟨#[41]⟩ : ByteArray).size = 1 from rfl]; omega
    rw [show (⟨#[40]⟩ : ByteArray).size = 1 from rfl]; omega
   by_cases hk : y.kind = 4
   ·rw [if_pos hk]
    exact hbig (.inl hk)
   rw [if_neg hk]
   by_cases hl0 : (y.kids.length : Int) > 0
   ·rw [if_pos hl0]
    exact hbig (.inr (by omega))
   rw [if_neg hl0]
   have hb : ¬ (y.kind = 4 ∨ 0 < y.kids.length) := by omega
   have et : txe (y.tx d) y = (⟨#[32]⟩ : ByteArray) ++ y.tx d := by unfold txe; rw [if_neg hb]
   rw [et] at ih h5 ⊢
   rw [chk_of, chk_of]
   ·rw [show IntKind.i64.wrap ((a.length : Int) + 1) = ((a ++ [y]).length : Int) from w64_mid a y r (by rw [← e]; omega)]
    exact ih
   ·omega
   rw [show (⟨#[32]⟩ : ByteArray).size = 1 from rfl]; omega
theorem iterm_ev (t : T) : t.sm → t.srcB = true → ∀ d : Int, 0 ≤ d → d + t.size ≤ 1000 → Ev fun n => i_termText n t d = some (orStop (t.clo d) (t.tx d)) := by
 induction t using T.ind with
 | _ k n s ks ih =>
  intro hsm hs d h0 h1
  have hts := small_size hsm hs h0 h1
  obtain ⟨hss, hl, hks⟩ := sm_kids hsm
  simp only [T.size] at h1
  have hsp : tsos ks = true → Ev fun n => ∀ (x : T) (acc : ByteArray), x.kids = ks → acc.size ≤ 2000000010 → i_termText_L1 (i_termText n) x d n acc 0 = some (orStop (ks.all fun t => t.clo d) (acc ++ txs ks d)) := fun hk =>
   (Ev.all fun t ht => ih t ht (hks t ht) (tsos_mem hk t ht) d h0 (by have := sizes_mem ht; omega)).at (ks.length + 1) fun n hn H x acc hx ha =>
    ispine_lp (i_termText n) x d (by rw [hx]; exact hl) (fun y hy => by rw [hx] at hy; exact ⟨H y hy, small_size (hks y hy) (tsos_mem hk y hy) h0 (by have := sizes_mem hy; omega)⟩) ks [] acc n hx (by omega) (by simpa using ha)
  simp only [T.tx, T.clo] at hts ⊢
  rcases src_shape k n s ks hs with ⟨rfl, a, rfl, ha⟩ | ⟨rfl, hn0, hn1, hk⟩ | ⟨rfl, hn0, hn1, hk⟩ | ⟨rfl, rfl⟩ | ⟨rfl, hk⟩
  ·simp only [sizes] at h1
   refine (ih a (by simp) (hks a (by simp)) ha (d + 1) (by omega) (by omega)).up 0 fun m _ h3 => ?_
   rw [if_pos rfl] at hts ⊢
   have e0 : i_termText (m + 1) (T.mk 4 n s [a]) d = (i_binderName d).bind fun r9 => chk ((⟨#[91]⟩ : ByteArray).size + r9.size ≤ 9223372036854775807) <| chk (((⟨#[91]⟩ : ByteArray) ++ r9).size + (⟨#[93, 32]⟩ : ByteArray).size ≤ 9223372036854775807) <| zb (i_termText m a (IntKind.i64.wrap (d + 1))) fun r18 => chk ((((⟨#[91]⟩ : ByteArray) ++ r9) ++ (⟨#[93, 32]⟩ : ByteArray)).size + r18.size ≤ 9223372036854775807) <| some (.ok ((((⟨#[91]⟩ : ByteArray) ++ r9) ++ (⟨#[93, 32]⟩ : ByteArray)) ++ r18)) := by rw [i_termText]; rfl
   simp only [tx1, clox, Bool.and_true] at hts ⊢
   simp only [ba_size, show (⟨#[91]⟩ : ByteArray).size = 1 from rfl, show (⟨#[93, 32]⟩ : ByteArray).size = 2 from rfl] at hts
   rw [e0, binder_eq d h0 (by omega), bind_some', chk_of, chk_of, w64_eq (by omega) (by omega), h3]
   ·show zb (some (orStop (a.clo (d + 1)) _)) _ = some (orStop (_ && a.clo (d + 1)) _)
    cases a.clo (d + 1) with
    | false => rfl
    | true =>
     show chk _ _ = _
     rw [chk_of]
     ·rfl
     simp only [ba_size, show (⟨#[91]⟩ : ByteArray).size = 1 from rfl, show (⟨#[93, 32]⟩ : ByteArray).size = 2 from rfl]; omega
   ·simp only [ba_size, show (⟨#[91]⟩ : ByteArray).size = 1 from rfl, show (⟨#[93, 32]⟩ : ByteArray).size = 2 from rfl]; omega
   rw [show (⟨#[91]⟩ : ByteArray).size = 1 from rfl]; omega
  ·rw [clox_all 5 (by decide) (by decide)]
   refine (hsp hk).up 0 fun m _ h3 => ?_
   rw [if_neg (by decide), if_pos rfl] at hts ⊢
   have e0 : i_termText (m + 1) (T.mk 5 n s ks) d = zb (if n ≥ d then some (.stop 7 0) else (i_binderName (IntKind.i64.wrap ((IntKind.i64.wrap (d - 1)) - n))).bind fun r5 => some (.ok r5)) fun r28 => i_termText_L1 (i_termText m) (T.mk 5 n s ks) d m r28 0 := by rw [i_termText]; rfl
   rw [e0]
   by_cases hnd : n ≥ d
   ·rw [if_pos hnd, decide_eq_true hnd]; rfl
   rw [if_neg hnd, decide_eq_false hnd, w64_eq (x := d - 1) (by omega) (by omega), w64_eq (by omega) (by omega), binder_eq _ (by omega) (by omega), bind_some']
   rw [ba_size] at hts
   exact h3 _ _ rfl (by omega)
  ·rw [clox_all 7 (by decide) (by decide)]
   refine (hsp hk).up 0 fun m _ h3 => ?_
   rw [if_neg (by decide), if_neg (by decide), if_pos rfl] at hts ⊢
   have e0 : i_termText (m + 1) (T.mk 7 n s ks) d = zb ((g_Itoa n).bind fun r13 => chk ((⟨#[63]⟩ : ByteArray).size + r13.size ≤ 9223372036854775807) <| some (.ok ((⟨#[63]⟩ : ByteArray) ++ r13))) fun r28 => i_termText_L1 (i_termText m) (T.mk 7 n s ks) d m r28 0 := by rw [i_termText]; rfl
   have hg := dg_size n
   rw [e0, itoa_dg n hn0 (by omega), bind_some', chk_of (by rw [show (⟨#[63]⟩ : ByteArray).size = 1 from rfl]; omega)]
   rw [ba_size] at hts
   exact h3 _ _ rfl (by omega)
  ·refine ⟨2, fun m hm => ?_⟩
   obtain ⟨m, rfl⟩ : ∃ k, m = k + 2 := ⟨m - 2, by omega⟩
   rw [if_neg (by decide), if_neg (by decide), if_neg (by decide), if_pos rfl]
   have e0 : i_termText (m + 2) (T.mk 8 n s []) d = i_termText_L1 (i_termText (m + 1)) (T.mk 8 n s []) d (m + 1) (⟨#[95]⟩) 0 := by rw [i_termText]; rfl
   rw [e0, i_termText_L1, if_neg (show ¬ (0 : Int) < (((T.mk 8 n s []).kids).length : Int) from Int.lt_irrefl 0)]
   rfl
  rw [clox_all 6 (by decide) (by decide)]
  refine (hsp hk).up 0 fun m _ h3 => ?_
  rw [if_neg (by decide), if_neg (by decide), if_neg (by decide), if_neg (by decide)] at hts ⊢
  have e0 : i_termText (m + 1) (T.mk 6 n s ks) d = i_termText_L1 (i_termText m) (T.mk 6 n s ks) d m s 0 := by rw [i_termText]; rfl
  rw [e0]
  exact h3 _ _ rfl (by omega)
end Go.Am.YtoajlhhalpldfaaGreatDoor
