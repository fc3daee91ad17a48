/- Plain laws of draws: types, contexts, expressions with a type. -/
import Derived.Test.YtpkeophkdemcpaaZsE
import Derived.Test.YtpkeophkdemcpaaZdA
import Derived.Test.YtpkeophkdemcpaaPvEncT
namespace Go.Am
open Go
mutual
def Pf.dep : Pf → Nat
 | .mk _ _ _ ks => 1 + pdeps ks
def pdeps : List Pf → Nat
 | [] => 0
 | t :: r => max t.dep (pdeps r)
end
theorem pdeps_mem : ∀ {ks : List Pf} {t : Pf}, t ∈ ks → t.dep ≤ pdeps ks
 | [], _, h => by cases h
 | a :: r, t, h => by
  simp only [pdeps]
  rcases List.mem_cons.1 h with rfl | h
  ·omega
  have := pdeps_mem h; omega
end Go.Am
namespace Go.Am.Ytpkeophkdemcpaa
open Go Go.Am

def ycost : Nat → Int
 | 0 => 1
 | m + 1 => 2 * ycost m + 2
theorem ycost_pos : ∀ m, 1 ≤ ycost m
 | 0 => Int.le_refl _
 | m + 1 => by have := ycost_pos m; simp only [ycost]; omega

structure Yt (t : F) : Prop where
 ok : t.tyok = true
 sm : t.sm

theorem yt_base {r : Int} (h0 : 0 ≤ r) (h1 : r < 2) : Yt (F.mk 1 r []) := by
 refine ⟨?_, by unfold F.sm; exact ⟨by simp, fun t h => by cases h⟩⟩
 have : r = 0 ∨ r = 1 := by omega
 rcases this with rfl | rfl <;> decide
theorem yt_fun {a b : F} (ha : Yt a) (hb : Yt b) : Yt (F.mk 2 0 [a, b]) := by
 refine ⟨fun_tyok ha.ok hb.ok, ?_⟩
 unfold F.sm
 refine ⟨by simp, fun t h => ?_⟩
 simp only [List.mem_cons, List.not_mem_nil, or_false] at h
 rcases h with rfl | rfl
 ·exact ha.sm
 exact hb.sm

theorem tyType_dr {c : List Int} (hc : Byt c) : ∀ (m : Nat) {K : Int} {z : List Int × Int × Int}, m ≤ 20 → Dr c K z → 0 ≤ K → K + ycost m ≤ 1000000000 →
  ∃ t z', (Ev fun n => s_l00Src_tyType n (z.1, z.2.1, z.2.2) (m : Int) = some (t, z')) ∧ Yt t ∧ Dr c (K + ycost m) z' ∧ (t.size : Int) ≤ ycost m
 | 0, K, z, _, h, h0, hK => by
  simp only [ycost] at hK
  obtain ⟨r, z1, e1, r0, r1, h1⟩ := next_dr hc h (by omega) (n := 2) (by omega) (by omega)
  have e1' : s_l00Src_next (z.1, z.2.1, z.2.2) 2 = some (r, z1) := e1
  refine ⟨F.mk 1 r [], z1, (Ev.of (p := fun _ => True) fun _ => trivial).up 0 fun n _ _ => ?_, yt_base r0 r1, h1.mono (by simp only [ycost]; omega), by simp only [F.size, fsizes, ycost]; omega⟩
  rw [s_l00Src_tyType, if_neg (by decide)]
  show (s_l00Src_next (z.1, z.2.1, z.2.2) 2).bind _ = _
  rw [e1']; rfl
 | m + 1, K, z, hm, h, h0, hK => by
  have hp := ycost_pos m
  simp only [ycost] at hK
  obtain ⟨b, z1, e1, h1⟩ := chance_dr hc h (by omega) (n := 2) (by omega) (by omega)
  have e1' : s_l00Src_chance (z.1, z.2.1, z.2.2) 2 = some (b, z1) := e1
  have hw : IntKind.i64.wrap (((m + 1 : Nat) : Int) - 1) = (m : Int) := by rw [w64_eq (by omega) (by omega)]; omega
  cases b with
  | true =>
   obtain ⟨x, z2, e2, hx, h2, sx⟩ := tyType_dr hc m (by omega) h1 (by omega) (by omega)
   obtain ⟨y, z3, e3, hy, h3, sy⟩ := tyType_dr hc m (by omega) h2 (by omega) (by omega)
   refine ⟨F.mk 2 0 [x, y], z3, (e2.and e3).up 0 fun n _ ⟨q2, q3⟩ => ?_, yt_fun hx hy, h3.mono (by simp only [ycost]; omega), by simp only [F.size, fsizes, ycost]; omega⟩
   rw [s_l00Src_tyType, if_pos (by omega)]
   show (s_l00Src_chance (z.1, z.2.1, z.2.2) 2).bind _ = _
   rw [e1', bind_some', if_pos rfl, hw]
   show (s_l00Src_tyType n (z1.1, z1.2.1, z1.2.2) (m : Int)).bind _ = _
   rw [q2, bind_some']
   show (s_l00Src_tyType n (z2.1, z2.2.1, z2.2.2) (m : Int)).bind _ = _
   rw [q3]; rfl
  | false =>
   obtain ⟨r, z2, e2, r0, r1, h2⟩ := next_dr hc h1 (by omega) (n := 2) (by omega) (by omega)
   have e2' : s_l00Src_next (z1.1, z1.2.1, z1.2.2) 2 = some (r, z2) := e2
   refine ⟨F.mk 1 r [], z2, (Ev.of (p := fun _ => True) fun _ => trivial).up 0 fun n _ _ => ?_, yt_base r0 r1, h2.mono (by simp only [ycost]; omega), by simp only [F.size, fsizes, ycost]; omega⟩
   rw [s_l00Src_tyType, if_pos (by omega)]
   show (s_l00Src_chance (z.1, z.2.1, z.2.2) 2).bind _ = _
   rw [e1', bind_some', if_neg (by simp)]
   show (s_l00Src_next (z1.1, z1.2.1, z1.2.2) 2).bind _ = _
   rw [e2']; rfl

theorem tyCtx_lp {c : List Int} (hc : Byt c) : ∀ (i : Nat) {K : Int} {z : List Int × Int × Int} {l : List F}, Dr c K z → 0 ≤ K → K + i * ycost 2 ≤ 1000000000 → i ≤ 3 → l.length + i ≤ 100 → (∀ t ∈ l, Yt t ∧ t.size ≤ 10) →
   ∃ l' z', (Ev fun n => ∀ k, i < k → s_l00Src_tyCtx_L1 n k (i : Int) z.1 z.2.1 z.2.2 l = some (l', z')) ∧ (∀ t ∈ l', Yt t ∧ t.size ≤ 10) ∧ l'.length = l.length + i ∧ Dr c (K + i * ycost 2) z'
 | 0, K, z, l, h, h0, hK, _, hl, hr => ⟨l, z, .of fun n k hk => by
   obtain ⟨k, rfl⟩ : ∃ j, k = j + 1 := ⟨k - 1, by omega⟩
   rw [s_l00Src_tyCtx_L1, if_neg (by decide)], hr, by omega, h.mono (by omega)⟩
 | i + 1, K, z, l, h, h0, hK, hi, hl, hr => by
  have hp : ycost 2 = 10 := by decide
  have e : ((i + 1 : Nat) : Int) * ycost 2 = (i : Int) * ycost 2 + ycost 2 := by rw [Int.natCast_add, Int.add_mul]; simp
  rw [e] at hK
  have hi0 : 0 ≤ (i : Int) * ycost 2 := Int.mul_nonneg (by omega) (by omega)
  obtain ⟨t, z1, e1, ht, h1, st⟩ := tyType_dr hc 2 (by omega) h h0 (by omega)
  obtain ⟨l', z', e2, h2, h3, h4⟩ := tyCtx_lp hc i (z := z1) (l := l ++ [t]) h1 (by omega) (by omega) (by omega) (by simp; omega) (fun u hu => by
   rcases List.mem_append.1 hu with q | q
   ·exact hr u q
   rw [List.mem_singleton.1 q]; exact ⟨ht, by omega⟩)
  refine ⟨l', z', (e1.and e2).mp fun n ⟨q1, q2⟩ k hk => ?_, h2, by rw [h3]; simp; omega, h4.mono (by rw [e]; omega)⟩
  obtain ⟨k, rfl⟩ : ∃ j, k = j + 1 := ⟨k - 1, by omega⟩
  have q1' : s_l00Src_tyType n (z.1, z.2.1, z.2.2) 2 = some (t, z1) := q1
  rw [s_l00Src_tyCtx_L1, if_pos (by omega), q1', bind_some', chk_of (by simp; omega), show IntKind.i64.wrap (((i + 1 : Nat) : Int) - 1) = (i : Int) by rw [w64_eq (by omega) (by omega)]; omega]
  exact q2 k (by omega)

structure Ex (m : Nat) (hs : List F) (e : Pf) (t : F) : Prop where
 tv : e.tv hs 0 = .ok t
 ty : Yt t
 sm : e.sm
 ok : e.exok = true
 dp : e.dep ≤ m
theorem Ex.mono {m m' : Nat} {hs : List F} {e : Pf} {t : F} (h : Ex m hs e t) (k : m ≤ m') : Ex m' hs e t := ⟨h.tv, h.ty, h.sm, h.ok, Nat.le_trans h.dp k⟩
theorem exok_var {r : Int} (h0 : 0 ≤ r) (h1 : r ≤ 100) : (Pf.mk 1 r [] []).exok = true := by
 have e : eshape 1 = (0, 0) := rfl
 simp only [Pf.exok, e, decide_eq_true h0, decide_eq_true h1, ftyoks, exoks]; rfl
theorem exok_app {a b : Pf} (ha : a.exok = true) (hb : b.exok = true) : (Pf.mk 2 0 [] [a, b]).exok = true := by
 simp only [Pf.exok, ha, hb, ftyoks, exoks]; rfl
theorem exok_lam {t : F} {b : Pf} (ht : t.tyok = true) (hb : b.exok = true) : (Pf.mk 3 0 [t] [b]).exok = true := by
 simp only [Pf.exok, ht, hb, ftyoks, exoks]; rfl

theorem sm_var (n : Int) : (Pf.mk 1 n [] []).sm := by
 unfold Pf.sm
 exact ⟨⟨by simp, fun t h => by cases h⟩, by simp, fun t h => by cases h⟩

theorem sm_app {a b : Pf} (ha : a.sm) (hb : b.sm) : (Pf.mk 2 0 [] [a, b]).sm := by
 unfold Pf.sm
 refine ⟨⟨by simp, fun t h => by cases h⟩, by simp, fun t h => ?_⟩
 simp only [List.mem_cons, List.not_mem_nil, or_false] at h
 rcases h with rfl | rfl
 ·exact ha
 exact hb
theorem sm_lamE {t : F} {b : Pf} (ht : t.sm) (hb : b.sm) : (Pf.mk 3 0 [t] [b]).sm := by
 unfold Pf.sm
 exact ⟨⟨by simp, fun u h => by rw [List.mem_singleton.1 h]; exact ht⟩, by simp, fun u h => by rw [List.mem_singleton.1 h]; exact hb⟩
mutual
theorem fbeq_rfl : ∀ a : F, a.beq a = true
 | .mk k n ks => by simp only [F.beq, fbeqs_rfl ks, decide_true, Bool.and_true]
theorem fbeqs_rfl : ∀ l : List F, fbeqs l l = true
 | [] => by simp [fbeqs]
 | a :: r => by simp only [fbeqs, fbeq_rfl a, fbeqs_rfl r, Bool.and_true]
end
theorem ex_lam {m : Nat} {hs : List F} {t u : F} {b : Pf} (ht : Yt t) (h : Ex m (hs ++ [t]) b u) : Ex (m + 1) hs (Pf.mk 3 0 [t] [b]) (F.mk 2 0 [t, u]) := by
 refine ⟨?_, yt_fun ht h.ty, sm_lamE ht.sm h.sm, exok_lam ht.ok h.ok, by have := h.dp; simp only [Pf.dep, pdeps]; omega⟩
 rw [Pf.tv, show fa [t] = t from rfl, tv_any _ _ _ _ h.tv (0 + 1)]
theorem ex_app {m : Nat} {hs : List F} {e a : Pf} {g u v : F} (he : Ex m hs e g) (ha : Ex m hs a u) (hk : g.kind = 2) (hg : g.kids = [u, v]) (hv : Yt v) : Ex (m + 1) hs (Pf.mk 2 0 [] [e, a]) v := by
 refine ⟨?_, hv, sm_app he.sm ha.sm, exok_app he.ok ha.ok, by have := he.dp; have := ha.dp; simp only [Pf.dep, pdeps]; omega⟩
 rw [Pf.tv, tv_any _ _ _ _ he.tv (0 + 1)]
 show (match a.tv hs (0 + 1 + e.psz) with | .stop c p => (Rz.stop c p : Rz F) | .ok b' => if g.kind = 2 then (if (fa g.kids).beq b' = true then .ok (fb g.kids) else .stop 10 (0 + 1 + e.psz)) else .stop 8 (0 + 1)) = _
 rw [tv_any _ _ _ _ ha.tv (0 + 1 + e.psz)]
 show (if g.kind = 2 then (if (fa g.kids).beq u = true then Rz.ok (fb g.kids) else Rz.stop 10 (0 + 1 + e.psz)) else Rz.stop 8 (0 + 1)) = _
 rw [if_pos hk, hg, show fa [u, v] = u from rfl, fbeq_rfl, if_pos rfl]; rfl
theorem ex_beta {m : Nat} {hs : List F} {a b : Pf} {u v : F} (ha : Ex m hs a u) (hb : Ex m (hs ++ [u]) b v) : Ex (m + 2) hs (Pf.mk 2 0 [] [Pf.mk 3 0 [u] [b], a]) v :=
 ex_app (ex_lam ha.ty hb) (ha.mono (by omega)) rfl rfl hb.ty

theorem base_dr {c : List Int} (hc : Byt c) {K : Int} {z : List Int × Int × Int} (h : Dr c K z) (hK : K ≤ 1000000000) {hs : List F} (hy : ∀ t ∈ hs, Yt t) (h1 : 1 ≤ hs.length) (h2 : hs.length ≤ 100) {d : Int} (hd : d ≤ 0) :
  ∃ e t z', (Ev fun n => s_l00Src_expr n (z.1, z.2.1, z.2.2) hs d = some (e, t, z')) ∧ Ex 1 hs e t ∧ Dr c (K + 1) z' := by
 obtain ⟨r, z1, e1, r0, r1, hd1⟩ := next_dr hc h (by omega) (n := (hs.length : Int)) (by omega) (by omega)
 have e1' : s_l00Src_next (z.1, z.2.1, z.2.2) (hs.length : Int) = some (r, z1) := e1
 have hi := hypt_idx (hs := hs) (n := r) r0 (by omega) (by omega)
 have hlt : hs.length - 1 - r.toNat < hs.length := by omega
 have hg : (hs[hs.length - 1 - r.toNat]?).getD F.zz = hs[hs.length - 1 - r.toNat]'hlt := by rw [List.getElem?_eq_getElem hlt]; rfl
 refine ⟨Pf.mk 1 r [] [], (hs[hs.length - 1 - r.toNat]?).getD F.zz, z1, (Ev.of (p := fun _ => True) fun _ => trivial).up 0 fun n _ _ => ?_, ⟨?_, by rw [hg]; exact hy _ (List.getElem_mem hlt), sm_var r, exok_var r0 (by omega), by simp only [Pf.dep, pdeps]; omega⟩, hd1⟩
 ·rw [s_l00Src_expr, jn_eq, if_pos hd, if_pos (by omega)]
  show (s_l00Src_next (z.1, z.2.1, z.2.2) (hs.length : Int)).bind _ = _
  rw [e1', bind_some', hi, bind_some']
 rw [Pf.tv, if_neg (by omega)]

def xcost : Nat → Int
 | 0 => 6
 | m + 1 => 3 * xcost m + 10
theorem xcost_pos : ∀ m, 6 ≤ xcost m
 | 0 => Int.le_refl _
 | m + 1 => by have := xcost_pos m; simp only [xcost]; omega
theorem more_eq {hs : List F} (u : F) (h : hs.length ≤ 1000) : s_l09More hs u = some (hs ++ [u]) := by
 unfold s_l09More
 rw [chk_of (by simp; omega), chk_of (by simp; omega)]
theorem yt_snoc {hs : List F} {u : F} (h : ∀ t ∈ hs, Yt t) (hu : Yt u) : ∀ t ∈ hs ++ [u], Yt t := fun t ht => by
 rcases List.mem_append.1 ht with q | q
 ·exact h t q
 rw [List.mem_singleton.1 q]; exact hu

theorem expr_dr {c : List Int} (hc : Byt c) : ∀ (k : Nat) {K : Int} {z : List Int × Int × Int} {hs : List F} {d : Int}, k ≤ 10 → d ≤ k → -3 ≤ d → Dr c K z → 0 ≤ K → K + xcost k ≤ 1000000000 → (∀ t ∈ hs, Yt t) → hs.length + 2 * k ≤ 100 →
  ∃ e t z', (Ev fun n => s_l00Src_expr n (z.1, z.2.1, z.2.2) hs d = some (e, t, z')) ∧ Ex (3 * k + 3) hs e t ∧ Dr c (K + xcost k) z'
 | 0, K, z, hs, d, _, hd, hd3, h, h0, hK, hy, hl => by
  simp only [xcost] at hK
  by_cases he : hs.length = 0
  ·obtain rfl := List.length_eq_zero_iff.1 he
   obtain ⟨t, z1, e1, ht, h1, _⟩ := tyType_dr hc 1 (by omega) h h0 (by simp only [ycost]; omega)
   have hw : IntKind.i64.wrap (d - 1) = d - 1 := w64_eq (by omega) (by omega)
   obtain ⟨e, u, z2, e2, hx, h2⟩ := base_dr hc h1 (by simp only [ycost]; omega) (hs := [] ++ [t]) (yt_snoc hy ht) (by simp) (by simp) (d := d - 1) (by omega)
   refine ⟨Pf.mk 3 0 [t] [e], F.mk 2 0 [t, u], z2, (e1.and e2).up 0 fun n _ ⟨q1, q2⟩ => ?_, (ex_lam ht hx).mono (by omega), h2.mono (by simp only [ycost, xcost]; omega)⟩
   have q1' : s_l00Src_tyType n (z.1, z.2.1, z.2.2) 1 = some (t, z1) := q1
   rw [s_l00Src_expr, jn_eq, if_pos (by omega), if_neg (by simp), jn_eq, if_neg (by omega)]
   show (s_l00Src_tyType n (z.1, z.2.1, z.2.2) 1).bind _ = _
   rw [q1', bind_some', more_eq t (by simp), bind_some', hw]
   show (s_l00Src_expr n (z1.1, z1.2.1, z1.2.2) ([] ++ [t]) (d - 1)).bind _ = _
   rw [q2]; rfl
  obtain ⟨e, t, z1, e1, hx, h1⟩ := base_dr hc h (by omega) hy (by omega) (by omega) (d := d) (by omega)
  exact ⟨e, t, z1, e1, hx.mono (by omega), h1.mono (by simp only [xcost]; omega)⟩
 | k + 1, K, z, hs, d, hk, hd, hd3, h, h0, hK, hy, hl => by
  have hp := xcost_pos k
  simp only [xcost] at hK
  by_cases hdk : d ≤ k
  ·obtain ⟨e, t, z1, e1, hx, h1⟩ := expr_dr hc k (by omega) hdk hd3 h h0 (by omega) hy (by omega)
   exact ⟨e, t, z1, e1, hx.mono (by omega), h1.mono (by simp only [xcost]; omega)⟩
  have hw1 : IntKind.i64.wrap (d - 1) = d - 1 := w64_eq (by omega) (by omega)
  have hw2 : IntKind.i64.wrap (d - 2) = d - 2 := w64_eq (by omega) (by omega)
  obtain ⟨b, z1, e1, h1⟩ := chance_dr hc h (by omega) (n := 3) (by omega) (by omega)
  have e1' : s_l00Src_chance (z.1, z.2.1, z.2.2) 3 = some (b, z1) := e1
  cases b with
  | true =>
   obtain ⟨f, g, z2, e2, hf, h2⟩ := expr_dr hc k (d := d - 1) (by omega) (by omega) (by omega) h1 (by omega) (by omega) hy (by omega)
   obtain ⟨a, u, z3, e3, ha, h3⟩ := expr_dr hc k (d := d - 2) (by omega) (by omega) (by omega) h2 (by omega) (by omega) hy (by omega)
   obtain ⟨b, v, z4, e4, hb, h4⟩ := expr_dr hc k (d := d - 2) (hs := hs ++ [u]) (by omega) (by omega) (by omega) h3 (by omega) (by omega) (yt_snoc hy ha.ty) (by simp; omega)
   have start : ∀ n, s_l00Src_expr n (z1.1, z1.2.1, z1.2.2) hs (d - 1) = some (f, g, z2) → s_l00Src_expr n (z2.1, z2.2.1, z2.2.2) hs (d - 2) = some (a, u, z3) →
     s_l00Src_expr (n + 1) (z.1, z.2.1, z.2.2) hs d = (if g.kind = 2 then (idx g.kids 0).bind fun y82 => (s_l09Same n y82 u).bind fun r87 => if r87 = true then (idx g.kids 1).bind fun y95 => some ((Pf.mk 2 0 [] [f, a]), y95, (z3.1, z3.2.1, z3.2.2)) else
      (s_l09More hs u).bind fun r100 => (s_l00Src_expr n (z3.1, z3.2.1, z3.2.2) r100 (IntKind.i64.wrap (d - 2))).bind fun r107 => some ((Pf.mk 2 0 [] [(Pf.mk 3 0 [u] [r107.1]), a]), r107.2.1, (r107.2.2.1, r107.2.2.2.1, r107.2.2.2.2))
      else (s_l09More hs u).bind fun r125 => (s_l00Src_expr n (z3.1, z3.2.1, z3.2.2) r125 (IntKind.i64.wrap (d - 2))).bind fun r132 => some ((Pf.mk 2 0 [] [(Pf.mk 3 0 [u] [r132.1]), a]), r132.2.1, (r132.2.2.1, r132.2.2.2.1, r132.2.2.2.2))) := fun n q2 q3 => by
    rw [s_l00Src_expr, jn_eq, if_neg (by omega), jn_eq, if_pos (by omega)]
    show (s_l00Src_chance (z.1, z.2.1, z.2.2) 3).bind _ = _
    rw [e1', bind_some', if_pos rfl, hw1]
    show (s_l00Src_expr n (z1.1, z1.2.1, z1.2.2) hs (d - 1)).bind _ = _
    rw [q2, bind_some', hw2]
    show (s_l00Src_expr n (z2.1, z2.2.1, z2.2.2) hs (d - 2)).bind _ = _
    rw [q3]; rfl
   have beta : ∀ n, s_l00Src_expr n (z3.1, z3.2.1, z3.2.2) (hs ++ [u]) (d - 2) = some (b, v, z4) → ((s_l09More hs u).bind fun r100 => (s_l00Src_expr n (z3.1, z3.2.1, z3.2.2) r100 (IntKind.i64.wrap (d - 2))).bind fun r107 => some ((Pf.mk 2 0 [] [(Pf.mk 3 0 [u] [r107.1]), a]), r107.2.1, (r107.2.2.1, r107.2.2.2.1, r107.2.2.2.2))) = some (Pf.mk 2 0 [] [Pf.mk 3 0 [u] [b], a], v, z4) := fun n q => by
    rw [more_eq u (by omega), bind_some', hw2, q]; rfl
   have hcost : K + 1 + xcost k + xcost k + xcost k ≤ K + xcost (k + 1) := by simp only [xcost]; omega
   by_cases hk2 : g.kind = 2
   ·obtain ⟨v1, v2, ek, y1, y2⟩ := tyok_fun hf.ty.ok hk2
    have hsm1 : v1.sm := by
     have := hf.ty.sm
     obtain ⟨g1, g2, g3⟩ := g
     have ek : g3 = [v1, v2] := ek
     subst ek
     exact (fsm_kids this).2 v1 (by simp)
    have hsm2 : v2.sm := by
     have := hf.ty.sm
     obtain ⟨g1, g2, g3⟩ := g
     have ek : g3 = [v1, v2] := ek
     subst ek
     exact (fsm_kids this).2 v2 (by simp)
    cases hq : v1.beq u with
    | true =>
     obtain rfl := fbeq_eq hq
     refine ⟨Pf.mk 2 0 [] [f, a], v2, z3, (e2.and (e3.and (sameS_ev v1 hsm1))).up 0 fun n _ ⟨q2, q3, q4⟩ => ?_, (ex_app hf ha hk2 ek ⟨y2, hsm2⟩).mono (by omega), h3.mono (by omega)⟩
     rw [start n q2 q3, if_pos hk2, ek, show idx [v1, v2] 0 = some v1 from rfl, bind_some', q4, bind_some', hq, if_pos rfl]; rfl
    | false =>
     refine ⟨_, v, z4, (e2.and (e3.and (e4.and (sameS_ev v1 hsm1)))).up 0 fun n _ ⟨q2, q3, q5, q4⟩ => ?_, (ex_beta ha hb).mono (by omega), h4.mono (by omega)⟩
     rw [start n q2 q3, if_pos hk2, ek, show idx [v1, v2] 0 = some v1 from rfl, bind_some', q4, bind_some', hq, if_neg (by decide)]
     exact beta n q5
   refine ⟨_, v, z4, (e2.and (e3.and e4)).up 0 fun n _ ⟨q2, q3, q5⟩ => ?_, (ex_beta ha hb).mono (by omega), h4.mono (by omega)⟩
   rw [start n q2 q3, if_neg hk2]
   exact beta n q5
  | false =>
   obtain ⟨t, z2, e2, ht, h2, _⟩ := tyType_dr hc 1 (by omega) h1 (by omega) (by simp only [ycost]; omega)
   obtain ⟨b, u, z3, e3, hb, h3⟩ := expr_dr hc k (d := d - 1) (hs := hs ++ [t]) (by omega) (by omega) (by omega) h2 (by simp only [ycost]; omega) (by simp only [ycost]; omega) (yt_snoc hy ht) (by simp; omega)
   refine ⟨Pf.mk 3 0 [t] [b], F.mk 2 0 [t, u], z3, (e2.and e3).up 0 fun n _ ⟨q2, q3⟩ => ?_, (ex_lam ht hb).mono (by omega), h3.mono (by simp only [ycost, xcost]; omega)⟩
   have q2' : s_l00Src_tyType n (z1.1, z1.2.1, z1.2.2) 1 = some (t, z2) := q2
   rw [s_l00Src_expr, jn_eq, if_neg (by omega), jn_eq, if_pos (by omega)]
   show (s_l00Src_chance (z.1, z.2.1, z.2.2) 3).bind _ = _
   rw [e1', bind_some', if_neg (by simp)]
   show (s_l00Src_tyType n (z1.1, z1.2.1, z1.2.2) 1).bind _ = _
   rw [q2', bind_some', more_eq t (by omega), bind_some', hw1]
   show (s_l00Src_expr n (z2.1, z2.2.1, z2.2.2) (hs ++ [t]) (d - 1)).bind _ = _
   rw [q3]; rfl

end Go.Am.Ytpkeophkdemcpaa
